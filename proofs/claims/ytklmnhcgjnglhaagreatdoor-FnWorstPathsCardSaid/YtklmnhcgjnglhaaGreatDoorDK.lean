/- By a program of mine (gen.py): for each function a plain function and the proof that the code computes it. -/
import Derived.Test.YtklmnhcgjnglhaaGreatDoorVA
import Derived.Test.YtklmnhcgjnglhaaGreatDoorB2
import Derived.Test.YtklmnhcgjnglhaaGreatDoorW3
import Derived.Test.YtklmnhcgjnglhaaGreatDoorW12
open Option renaming bind_some->jd, some->V, none->U
open Bool renaming and_eq_true->je, not_eq_true'->jC, true->An, false->Cd, cond_true->Ci, cond_false->Cj
open Nat renaming le_refl->jf, zero_le->jR, le_trans->jX, not_lt_zero->Ji
open List renaming length_append->jg, length_singleton->jh, getElem_mem->jo, length_map->jq, not_mem_nil->jH, mem_cons->jN, map_append->jT, append_nil->jY
open Int renaming toNat_natCast->jr, tdiv_eq_ediv_of_nonneg->jM, le_refl->jV, add_zero->Jn
open Go.Fw.Ev renaming bind->Ck, now->Cx, bindN->Cy
open Go.Fw.qy renaming bind->Cl, done->Cn, bindN->Co, succ->Cw, bindE->Cz
open Go.Fw.PV renaming done->Cq
open Go.Fw.SH renaming unfr->Cv, frm1->Da

namespace Go.Fw
open Go Go.Proofs Go.Proofs.Tryz
open Go.RowKit (Below)
open Ch renaming own->oW,box->oX,grp->oG
open qm renaming v->oV
open Go.Value renaming slice->oS
set_option maxRecDepth 100000
set_option maxHeartbeats 6400000
variable{n:Nat}{w:World}{cs1 cs2 cs3 cs4 cs5 cs6 cs7 cs8 cs9:List Value}
def qt(_:Nat)(Ce:qb)(Cf:Int):Option (Int×Int×Int):=bif decide (Cf<=1) then V (0,Ce.at_,Ce.seed) else bif decide (Ce.at_<(Ce.code.length:Int)) then(qF Ce.code Ce.at_).bind fun a=>bif decide (Cf<=256) then(LF (qj a.val) Cf).bind fun b=>V (b,qj (Ce.at_+1),Ce.seed) else(LF ((qj ((qj ((qj (Ce.seed*48271))+(qj a.val)))+1)).tmod 2147483647) Cf).bind fun c=>V (c,qj (Ce.at_+1),(qj ((qj ((qj (Ce.seed*48271))+(qj a.val)))+1)).tmod 2147483647) else(LF (qj (((qj ((qj (Ce.seed*48271))+11)).tmod 2147483647).tdiv 7)) Cf).bind fun d=>V (d,Ce.at_,(qj ((qj (Ce.seed*48271))+11)).tmod 2147483647)
abbrev xb(b:Nat)(s:qb)(p:Option Addr)(k:Nat)(a d:Int):Ch:=oX b [oL p s.code k,vi a,vi d] 114
abbrev xf(w0 w:World)(F:List Ch)(s:qb)(p:Option Addr)(k:Nat):Ch:=oG (old w0) (FS F) [ti s (ao s p k),same w0 w F]
theorem lj{n s w F}{Ce:qb}{a p1 p Cf}(f:SH s w (xb a Ce p1 p Ce.at_ Ce.seed::F))(i:qm.R w (Fr s F) Ce (ao Ce p1 p)){r:Int×Int×Int}(A:qt n Ce Cf=V r):wX prog 21 [vp a,vi Cf] w (fun B w'=>B=[vi r.1]/\SH s w' (xb a Ce p1 p r.2.1 r.2.2::F)):=by
 have h:=Da f i;refine cp func21 Z (m:=76) Z Z (X0 10 Z (qp Z A ?_ ?_))<;>intro A
 .refine X0 4 Z ?_;obtain rfl:=qe A;exact bX qa [vi 0] ⟨Z,G⟩ ⟨Z,Cv 1 1 f h Z Z⟩
 refine ZT (rD (Y1 4 0 h Z ?_));refine Y1 4 0 h Z ?_;refine xQ Z (dN h fun _ h=>qp Z A ?_ ?_)<;>intro A
 .refine au (rD (Y1 4 0 h Z ?_));refine Y1 4 0 h Z ?_;obtain⟨_,_,A,g,_,_,_,_,l,o,rfl,k⟩:=(qE (h.grp 1 0 Z Z)).1.ix A;refine XH l o ⟨g.1,qD g.2.1 (qE (h.grp 1 0 Z Z)).2⟩ Z (XG 0 k Z (xQ Z (dN h fun _ h=>X1 9 0 h Z (zs 0 h Z fun _ h=>X0 7 Z (qp Z A ?_ ?_)))))<;>intro A
  .refine X0 4 Z ?_;obtain⟨x,b,A⟩:=qc A;obtain⟨t,b⟩:=wq b;refine dK (TH t b Z Z) Z (X0 2 Z ?_);obtain rfl:=qe A;exact bX qa [vi x] ⟨Z,G⟩ ⟨Z,Cv 1 1 f h Z Z⟩
  refine X1 15 0 h Z (zs 0 h Z fun _ h=>X1 8 0 h Z ?_);obtain⟨y,c,A⟩:=qc A;obtain⟨u,c⟩:=wq c;refine dK (TH u c Z Z) Z (X0 2 Z ?_);obtain rfl:=qe A;exact bX qa [vi y] ⟨Z,G⟩ ⟨Z,Cv 1 1 f h Z Z⟩
 refine X1 13 0 h Z (zs 0 h Z fun _ h=>X1 9 0 h Z ?_);obtain⟨z,d,A⟩:=qc A;obtain⟨v,d⟩:=wq d;refine dK (TH v d Z Z) Z (X0 2 Z ?_);obtain rfl:=qe A;exact bX qa [vi z] ⟨Z,G⟩ ⟨Z,Cv 1 1 f h Z Z⟩
theorem qdP{n m:Nat}{Q:Exit->Act->World->Prop}{k:List It}{e:fy}{c w:World}{F:List Ch}{all:Array Oper}{l:List Oper}{d ty:Nat}{ps:String}{u:Array Edge}{x:Operand}{o:Array Operand}{r:Array TypeId}{code:List (gW .u8)}{a s q i f g:Int}{t:Nat}{p1:Option Addr}{b:Nat}
  (h:SH c w (oX t [oL p1 code b,vi a,vi s] 114::F)) (y:dn w (Fr c F) code p1 b) (v:qt m ⟨code,a,s⟩ q=V (i,f,g)) (B:gg e x=V (.func (.func 21) #[] #[])) (p:pk e o.toList=V [vp t,vi q]) (A:Nat.blt d n=An)
  (z:∀w',SH c w' (oX t [oL p1 code b,vi f,vi g] 114::F)->bu prog n Q (.ops all l::k) ((d,vi i)::e) w'):bu prog n Q (.ops all (⟨V d,.call ⟨.value x,o,r⟩,ty,ps,u,U⟩::l)::k) e w:=by
 refine bA (cB 21 Z) (lj (Ce:=⟨code,a,s⟩) h ⟨[oL p1 code b],[vi a,vi s],Z,⟨_,_,Z,y⟩,⟨[vi a],[vi s],Z,Z,Z⟩⟩ v) B p Z A ?_;rintro w' _ ⟨rfl,h⟩;exact z w' h
theorem lZ{n m:Nat}{Q:Exit->Act->World->Prop}{k:List It}{e:fy}{c w:World}{F:List Ch}{all:Array Oper}{l:List Oper}{d ty:Nat}{ps:String}{u:Array Edge}{x:Operand}{o:Array Operand}{r:Array TypeId}{z:qb}{a s q i f g:Int}{t:Nat}{p1:Option Addr}{b:Nat}
  (h:SH c w (xb t z p1 b a s::F)) (y:qm.R w (Fr c F) z (ao z p1 b)) (v:qt m ⟨z.code,a,s⟩ q=V (i,f,g)) (C:gg e x=V (.func (.func 21) #[] #[])) (p:pk e o.toList=V [vp t,vi q]) (B:Nat.blt d n=An)
  (A:∀w',SH c w' (xb t z p1 b f g::F)->bu prog n Q (.ops all l::k) ((d,vi i)::e) w'):bu prog n Q (.ops all (⟨V d,.call ⟨.value x,o,r⟩,ty,ps,u,U⟩::l)::k) e w:=qdP h (qE y).1 v C p B A
def nO(c:qR)(b:Int):Nat->Bool->Bool->Int->Option (Bool×Bool×Int)|0,_,_,_=>U|n+1,b1,b2,a=>bif decide (a<(c.Bt.length:Int)) then bif ((qb8 .and .i64 a b) != 0) then nO c b n b1 b2 (qj (a+1)) else(bif b1 then V An else(qF c.Bt a).bind fun g=>(qF c.Bt (qj (a+b))).bind fun h=>V (decide (g<h))).bind fun b3=>bif b2 then nO c b n b3 An (qj (a+1)) else(qF c.Bt a).bind fun d=>(qF c.Bt (qj (a+b))).bind fun f=>nO c b n b3 (decide (d > f)) (qj (a+1)) else V (b1,b2,a)
def yf(n:Nat)(c:qR)(pin:Int):Option Int:=(ZJ 1 (IntKind.wrap .u64 pin)).bind fun b=>(nO c b n Cd Cd 0).bind fun(b1,b2,_)=>(bif b1 then V b2 else V Cd).bind fun a=>bif a then V 3 else bif b1 then V 1 else bif b2 then V 2 else V 0
theorem IR{c:qR}{pin}(v:Ro w c cs1){r:Int}(F:yf n c pin=V r):qP prog 266 [gv c cs1,vi pin] w r:=by
 obtain⟨p1,R,W,S,X,k3,rfl,_,_,l⟩:=aV v;refine zV 64 func266 Z fun h=>dE (qJ h Z Z fun _ a h=>X0 11 Z ?_);obtain⟨Q,b,F⟩:=qc F;obtain⟨Y,b⟩:=IJ b;refine dK (qaa Y Z Z) Z ?_;rw[b];refine X0 7 Z ?_;obtain⟨o1,F,u⟩:=qc F;refine qr (rL (fun m e w'=>∃b1 b2 k,nO c Q m b1 b2 k=V o1/\e=[(2,vp a),(5,.bool b1),(6,.bool b2),(7,vi Q),(8,vi k)]/\SH w w' [oX a (qO c p1 W X R S k3) 106]) n ⟨_,_,_,F,Z,h⟩ Z ?_);rintro T _ _ ⟨b1,b2,k,F,rfl,h⟩;rcases T with _|T
 .cases F
 refine X1 9 0 h Z (qp Z F ?_ ?_)<;>intro F
 .refine X0 8 Z (dK (qcS Z Z Z) Z (X0 2 Z (qp Z F ?_ ?_)))<;>intro F
  .exact qx Z (X0 5 Z (rK ⟨_,_,_,F,Z,h⟩ Z))
  refine E1 ?_;obtain⟨o,g,_,F,d⟩:=bindE F;refine bd (fun e w'=>∃b3,o b3=V o1/\e=[(2,vp a),(5,.bool b3),(6,.bool b2),(7,vi Q),(8,vi k)]/\SH w w' [oX a (qO c p1 W X R S k3) 106]) ?_ ?_
  .refine rD (xQ Z (bJ (t:=24) F Z ?_ ?_))<;>intro F
   .refine Y0 15 Z (dN h fun _ h=>?_);exact rH F d h Z
   refine Y1 4 0 h Z ?_;refine Y0 3 Z ?_;obtain⟨_,_,F,D,_,_,_,_,K,O,rfl,z⟩:=l.ix F;refine hG K O D Z (Y0 1 Z (fF 0 z h Z (Y1 4 0 h Z ?_)));refine Y0 7 Z ?_;obtain⟨_,_,F,H,_,_,_,_,L,P,rfl,A⟩:=l.ix F;refine hG L P H Z (Y0 1 Z (fF 0 A h Z (Y0 4 Z (dN h fun _ h=>?_))));exact rH F d h Z
  rintro _ _ ⟨b3,F,rfl,h⟩;subst g;refine rD (xQ Z (bJ (t:=40) F Z ?_ ?_))<;>intro F
  .exact Y0 15 Z (dN h fun _ h=>X0 6 Z (rK ⟨_,_,_,F,Z,h⟩ Z))
  refine Y1 4 0 h Z ?_;refine Y0 3 Z ?_;obtain⟨_,_,F,B,_,_,_,_,I,M,rfl,x⟩:=l.ix F;refine hG I M B Z (Y0 1 Z (fF 0 x h Z (Y1 4 0 h Z ?_)));refine Y0 7 Z ?_;obtain⟨_,_,F,C,_,_,_,_,J,N,rfl,y⟩:=l.ix F;exact hG J N C Z (Y0 1 Z (fF 0 y h Z (Y0 4 Z (dN h fun _ h=>X0 6 Z (rK ⟨_,_,_,F,Z,h⟩ Z)))))
 refine qx Z ?_;cases qe F;have F:=u;refine X0 3 Z ?_;obtain⟨p,i,_,F,f⟩:=bindE F;refine bd (fun e w'=>∃s,p s=V r/\e=[(5,.bool b1),(6,.bool b2),(55,.bool s)]/\SH w w' []) ?_ ?_
 .refine X0 3 Z (qh (t:=57) F Z ?_ ?_)<;>intro F
  .refine X0 5 Z ?_;have h:=h.p [] Z;exact rH F f h Z
  refine X0 4 Z ?_;have h:=h.p [] Z;exact rH F f h Z
 rintro _ _ ⟨s,F,rfl,h⟩;subst i;refine qp Z F ?_ ?_<;>intro F
 .exact X0 4 Z (ri h F Z)
 refine X0 5 Z (qp Z F ?_ ?_)<;>intro F
 .exact X0 4 Z (ri h F Z)
 refine X0 5 Z (qp Z F ?_ ?_)<;>intro F
 .exact X0 4 Z (ri h F Z)
 exact X0 6 Z (ri h F Z)
def gF(s:qb)(step:Int):Nat->(List Int)->Int->Int->Int->Int->Option ((List Int)×Int×Int×Int×Int)|0,_,_,_,_,_=>U|n+1,x1,g,i8,f,a=>bif decide (a > 0) then(dj x1 ([f]:List Int)).bind fun h=>(qt n (⟨s.code,g,i8⟩:qb) step).bind fun(b,c,d)=>gF s step n h c d (qj ((qj (f+1))+b)) (qj (a-1)) else V (x1,g,i8,f,a)
def nM(n:Nat)(s:qb)(step:Int):Option ((List Int)×Int×Int):=(qt n (⟨s.code,s.at_,s.seed⟩:qb) step).bind fun(a,b,c)=>(qt n (⟨s.code,b,c⟩:qb) 3).bind fun(d,f,g)=>(gF s step n ([]:List Int) f g a (qj (1+d))).bind fun(x1,h,i8,_,_)=>V (x1,h,i8)
theorem vn{n g w F}{s:qb}{a p1 f step}(z:SH g w (xb a s p1 f s.at_ s.seed::F))(p:qm.R w (Fr g F) s (ao s p1 f)){r:(List Int)×Int×Int}(D:nM n s step=V r):wX prog 296 [vp a,vi step] w (fun I w'=>∃S1 cs1,I=[oV (List Int) cs1]/\SH g w' (oW S1 (r.1:List Int) cs1::xb a s p1 f r.2.1 r.2.2::F)):=by
 have h:=Da z p;refine cp func296 Z (m:=30) Z Z (X0 6 Z (qv qa [] _ ([]:List Int) h z9 trivial Z fun _ _ _ h=>X0 6 Z ?_));have h:=h.p [1,0,2] Z;obtain⟨⟨_,_,_⟩,t,D⟩:=qc D;refine lZ h (h.frG 2 0 1 Z Z Z) t Z Z Z fun _ h=>X0 6 Z ?_;obtain⟨⟨_,_,_⟩,u,D⟩:=qc D;refine lZ h (h.frG 2 0 1 Z Z Z) u Z Z Z fun _ h=>X0 3 Z ?_;obtain⟨C,D,o⟩:=qc D;refine qr (rL (fun m e w'=>∃y l d k x1 x H i c,gF s step m x1 x H i c=V C/\e=[(0,vp a),(1,vi step),(5,oS l d k),(6,vi i),(7,vi c)]/\SH g w' [xb a s p1 f x H,oW y (x1:List Int) [oS l d k],xf g w F s p1 f]) n ⟨_,_,_,_,_,_,_,_,_,D,Z,h⟩ Z ?_);rintro A _ _ ⟨y,l,d,k,x1,x,H,i,c,D,rfl,h⟩;obtain rfl:=(h.sl 1 Z).2;rcases A with _|A
 .cases D
 refine X0 6 Z (qp Z D ?_ ?_)<;>intro D
 .refine X0 7 Z (qv qa [.tmp 20] _ ([i]:List Int) h z9 ⟨Z,G⟩ Z fun _ _ _ h=>?_);obtain⟨_,b,D⟩:=qc D;obtain⟨B,b⟩:=qH b;refine bo qa 2 h Z (h.sl 0 Z).1 (h.sl 0 Z).2 z9 B b Z fun _ _ _ _ h=>X0 7 Z ?_;have h:=h.p [1,0,2,3] Z;obtain⟨⟨_,_,_⟩,v,D⟩:=qc D;refine lZ h (h.frG 3 0 1 Z Z Z) v Z Z Z fun _ h=>X0 9 Z ?_;exact rK ⟨_,_,_,_,_,_,_,_,_,D,Z,h.p [0,2,3] Z⟩ Z
 refine qx Z ?_;cases qe D;replace D:=o;refine X0 5 Z ?_;obtain rfl:=qe D;have h:=h.p [1,0,2] Z;exact bX qa [oV (List Int) [oL l x1 k]] ⟨Z,G⟩ ⟨_,_,Z,Cv 1 1 z h Z Z⟩
def kx(Ce:qb)(Cf:Int)(r1:List Int)(c:List Int):Nat->(List Int)->Int->Int->Int->Option ((List Int)×Int×Int×Int)|0,_,_,_,_=>U|n+1,x1,p,r,a=>bif decide (a<(qj ((r1.length:Int)*(c.length:Int)))) then(qt n (⟨Ce.code,p,r⟩:qb) 10).bind fun(i8,s,d)=>(LF a (c.length:Int)).bind fun y=>(bif decide (y > 0) then(qF x1 (qj (a-1))).bind fun u=>(qt n (⟨Ce.code,s,d⟩:qb) 20).bind fun(i,l,m)=>V (l,m,(if (qj (u+i)) > (qj (Cf+i8)) then(qj (u+i)) else(qj (Cf+i8)))) else V (s,d,qj (Cf+i8))).bind fun(f,g,b)=>bif decide (a>=(c.length:Int)) then(qF x1 (qj (a-(c.length:Int)))).bind fun t=>(qt n (⟨Ce.code,f,g⟩:qb) 20).bind fun(h,k,i16)=>(dj x1 ([(if (qj (t+h)) > b then(qj (t+h)) else b)]:List Int)).bind fun v=>kx Ce Cf r1 c n v k i16 (qj (a+1)) else(dj x1 ([b]:List Int)).bind fun x=>kx Ce Cf r1 c n x f g (qj (a+1)) else V (x1,p,r,a)
def tX(n:Nat)(Ce:qb)(Cf:Int):Option (aa×Int×Int):=(nM n (⟨Ce.code,Ce.at_,Ce.seed⟩:qb) 60).bind fun(r1,b,c)=>(nM n (⟨Ce.code,b,c⟩:qb) 40).bind fun(a,d,f)=>(kx Ce Cf r1 a n ([]:List Int) d f 0).bind fun(x1,g,h,_)=>V ((⟨r1,a,x1⟩:aa),g,h)
theorem yN{n g w F}{Ce:qb}{a p1 d Cf}(h0:SH g w (xb a Ce p1 d Ce.at_ Ce.seed::F))(T:qm.R w (Fr g F) Ce (ao Ce p1 d)){r:aa×Int×Int}(hF:tX n Ce Cf=V r):wX prog 289 [vp a,vi Cf] w (fun us w'=>∃S1 cs1,us=[oV aa cs1]/\SH g w' (oW S1 (r.1:aa) cs1::xb a Ce p1 d r.2.1 r.2.2::F)):=by
 have h:=Da h0 T;refine cp func289 Z (m:=66) Z Z (dE (qi qa h Z Z Z fun w1 b h=>X0 4 Z ?_));have h:=h.p [1,0,2] Z;obtain⟨⟨r1,L,N⟩,X,hF⟩:=qc hF;refine bA (cB 296 Z) (vn (s:=Ce) (step:=60) h (show qm.R _ _ (Ce:qb) _ from⟨[oL p1 Ce.code d],[vi Ce.at_,vi Ce.seed],Z,⟨_,_,Z,(qE (h.frG 2 0 1 Z Z Z)).1⟩,⟨[vi Ce.at_],[vi Ce.seed],Z,Z,Z⟩⟩) X) Z Z Z Z ?_;rintro _ _ ⟨S2,_,rfl,h⟩;obtain⟨v,t,rfl,-⟩:=h.own 0 Z;replace h:SH _ _ [oW S2 (r1:List Int) [oL v r1 t],xb a Ce p1 d L N,oX b RF 175,xf g w F Ce p1 d]:=h;refine X0 5 Z ?_;have h:=h.p [1,0,2,3] Z;obtain⟨⟨f,i3,i4⟩,Y,hF⟩:=qc hF;refine bA (cB 296 Z) (vn (s:=(⟨Ce.code,L,N⟩:qb)) (step:=40) h (show qm.R _ _ ((⟨Ce.code,L,N⟩:qb):qb) _ from⟨[oL p1 Ce.code d],[vi L,vi N],Z,⟨_,_,Z,(qE (h.frG 3 0 1 Z Z Z)).1⟩,⟨[vi L],[vi N],Z,Z,Z⟩⟩) Y) Z Z Z Z ?_;rintro _ _ ⟨Q,_,rfl,h⟩;obtain⟨y,k3,rfl,-⟩:=h.own 0 Z;replace h:SH _ _ [oW Q (f:List Int) [oL y f k3],xb a Ce p1 d i3 i4,oW S2 (r1:List Int) [oL v r1 t],oX b RF 175,xf g w F Ce p1 d]:=h;refine X0 4 Z (qv qa [] _ ([]:List Int) h z9 trivial Z fun _ _ _ h=>X0 13 Z ?_);obtain⟨o3,hF,S⟩:=qc hF;refine qr (rL (fun m e w'=>∃R z u x x1 i5 i6 O,kx Ce Cf r1 f m x1 i5 i6 O=V o3/\e=[(0,vp a),(1,vi Cf),(4,vp b),(5,oL v r1 t),(6,oL y f k3),(7,oS z u x),(8,vi (f.length:Int)),(9,vi O)]/\SH g w' [oW R (x1:List Int) [oS z u x],oW Q (f:List Int) [oL y f k3],xb a Ce p1 d i5 i6,oW S2 (r1:List Int) [oL v r1 t],oX b RF 175,xf g w F Ce p1 d]) n ⟨_,_,_,_,_,_,_,_,hF,Z,h⟩ Z ?_);rintro m1 _ _ ⟨R,z,u,x,x1,i5,i6,O,hF,rfl,h⟩;obtain rfl:=(h.sl 0 Z).2;rcases m1 with _|m1
 .cases hF
 refine X0 10 Z (qp Z hF ?_ ?_)<;>intro hF
 .refine X0 7 Z ?_;have h:=h.p [2,0,1,3,4,5] Z;obtain⟨⟨_,_,_⟩,a3,hF⟩:=qc hF;refine lZ h (h.frG 5 0 1 Z Z Z) a3 Z Z Z fun _ h=>X0 8 Z ?_;obtain⟨_,i,hF⟩:=qc hF;obtain⟨g1,i⟩:=wq i;refine dK (TH g1 i Z Z) Z (X0 2 Z ?_);obtain⟨P,B,_,hF,A⟩:=bindE hF;refine bd (fun e w'=>∃o p c,P (o,p,c)=V o3/\e=[(0,vp a),(1,vi Cf),(4,vp b),(5,oL v r1 t),(6,oL y f k3),(7,oL z x1 x),(8,vi (f.length:Int)),(9,vi O),(10,vi c)]/\SH g w' [xb a Ce p1 d o p,oW R (x1:List Int) [oL z x1 x],oW Q (f:List Int) [oL y f k3],oW S2 (r1:List Int) [oL v r1 t],oX b RF 175,xf g w F Ce p1 d]) ?_ ?_
  .refine qp Z hF ?_ ?_<;>intro hF
   .refine rA [] [1] h Z fun _ h=>M0 15 [0,1,2,3] (h.p [1] Z) Z ?_;obtain⟨_,a7,hF,D,_,_,_,_,I,K,rfl,_⟩:=(h.sl 1 Z).1.ix hF;refine Ax 4 31 I K ⟨D.1,qD D.2.1 (h.sl 1 Z).2⟩ (h.p [1] Z) Z (Aw 5 63 (fun w' hw=>cR qa (qQ (w1:=w) (S1:=fun _=>False) hw 0 Z a7 I K Z) (j:=0) Z Z Z) (h.p [1] Z) Z ?_);refine M0 127 [6] (h.p [1] Z) Z (Ao 7 255 Z ?_);obtain⟨⟨_,_,_⟩,a5,hF⟩:=qc hF;refine lZ h (h.frG 5 0 1 Z Z Z) a5 Z Z Z fun _ h=>G0 2047 [8,9,10] (h.p [1] Z) Z (Ad ?_);cases qe hF;exact rG ⟨_,_,_,A,Z,h⟩ Z
   refine ez ?_;cases qe hF;exact rG ⟨_,_,_,A,Z,h⟩ Z
  rintro _ _ ⟨o,p,c,hF,rfl,h⟩;subst B;refine X0 7 Z (qp Z hF ?_ ?_)<;>intro hF
  .refine rA [] [1] h Z fun _ h=>M0 31 [0,1,2,3,4] (h.p [1] Z) Z ?_;obtain⟨y2,a6,hF,C,_,_,_,_,H,J,rfl,_⟩:=(h.sl 1 Z).1.ix hF;refine Ax 5 63 H J ⟨C.1,qD C.2.1 (h.sl 1 Z).2⟩ (h.p [1] Z) Z (Aw 6 127 (fun w' hw=>cR qa (qQ (w1:=w) (S1:=fun _=>False) hw 0 Z a6 H J Z) (j:=0) Z Z Z) (h.p [1] Z) Z ?_);refine M0 255 [7] (h.p [1] Z) Z (Ao 8 511 Z ?_);obtain⟨⟨M,_,_⟩,a4,hF⟩:=qc hF;refine lZ h (h.frG 5 0 1 Z Z Z) a4 Z Z Z fun _ h=>G0 4095 [9,10,11] (h.p [1] Z) Z (Ad (X0 3 Z (qv qa [.tmp 59] _ ([(if (qj (y2+M)) > c then(qj (y2+M)) else c)]:List Int) h z9 ⟨Z,G⟩ Z fun _ _ _ h=>?_)));obtain⟨_,k,hF⟩:=qc hF;obtain⟨g2,k⟩:=qH k;refine bo qa 2 h Z (h.sl 0 Z).1 (h.sl 0 Z).2 z9 g2 k Z fun _ _ _ _ h=>X0 8 Z ?_;exact rK ⟨_,_,_,_,_,_,_,_,hF,Z,h.p [2,3,1,4,5,6] Z⟩ Z
  refine X0 4 Z (qv qa [.tmp 59] _ ([c]:List Int) h z9 ⟨Z,G⟩ Z fun _ _ _ h=>?_);obtain⟨_,l,hF⟩:=qc hF;obtain⟨g3,l⟩:=qH l;refine bo qa 2 h Z (h.sl 0 Z).1 (h.sl 0 Z).2 z9 g3 l Z fun _ _ _ _ h=>X0 8 Z ?_;exact rK ⟨_,_,_,_,_,_,_,_,hF,Z,h.p [2,3,1,4,5,6] Z⟩ Z
 refine qx Z ?_;cases qe hF;replace hF:=S;refine X0 5 Z (dK (qC qa [0,1,2] [.tmp 62,.tmp 63,.tmp 64] z8) Z (zs 4 h Z fun _ h=>ac ?_));have W:=h;obtain⟨_,h⟩:=h.gather [2,4,5] (L3 (⟨r1,f,x1⟩:aa) h (qS 3 h Z) (qS 1 h Z) (qS 0 h Z) (by rfl) (by rfl)) Z;obtain rfl:=qe hF;have h:=h.p [0,1,3] Z;exact bX qa [oV aa [oL v r1 t,oL y f k3,oL z x1 x]] ⟨⟨_,_,_,Z,Z,W.box 4 Z,Z⟩,G⟩ ⟨_,_,Z,Cv 1 1 h0 h Z Z⟩
def im(n:Nat)(s:qb)(base:Int):Option ((List aa)×Int×Int):=(tX n (⟨s.code,s.at_,s.seed⟩:qb) base).bind fun(r1,a,b)=>(tX n (⟨s.code,a,b⟩:qb) base).bind fun(f,c,d)=>V (([r1,f]:List aa),c,d)
theorem oo{n f w F}{s:qb}{a p1 b base}(y:SH f w (xb a s p1 b s.at_ s.seed::F))(i:qm.R w (Fr f F) s (ao s p1 b)){r:(List aa)×Int×Int}(M:im n s base=V r):wX prog 279 [vp a,vi base] w (fun N w'=>∃S1 cs1,N=[oV (List aa) cs1]/\SH f w' (oW S1 (r.1:List aa) cs1::xb a s p1 b r.2.1 r.2.2::F)):=by
 have h:=Da y i;refine cp func279 Z (m:=14) Z Z (X0 8 Z ?_);obtain⟨⟨r1,c,d⟩,k,M⟩:=qc M;refine bA (cB 289 Z) (yN (Ce:=s) (Cf:=base) h (show qm.R _ _ (s:qb) _ from⟨[oL p1 s.code b],[vi s.at_,vi s.seed],Z,⟨_,_,Z,(qE (h.frG 1 0 1 Z Z Z)).1⟩,⟨[vi s.at_],[vi s.seed],Z,Z,Z⟩⟩) k) Z Z Z Z ?_;rintro _ _ ⟨S2,_,rfl,h⟩;obtain⟨t,o,u,k3,v,p,rfl,-,-,-⟩:=fk (h.own 0 Z);replace h:SH _ _ [oW S2 (r1:aa) (lC r1 t u v o k3 p),xb a s p1 b c d,xf f w F s p1 b]:=h;refine qi qa h Z Z Z fun _ g h=>zs 0 h Z fun _ h=>O2 (rA [] [0] h Z fun _ h=>M1 7 [0,1,2] 0 (h.p [0] Z) Z (Ao 3 15 Z ?_));have h:=h.p [2,0,1,3] Z;obtain⟨⟨x,A,B⟩,l,M⟩:=qc M;refine bA (cB 289 Z) (yN (Ce:=(⟨s.code,c,d⟩:qb)) (Cf:=base) h (show qm.R _ _ ((⟨s.code,c,d⟩:qb):qb) _ from⟨[oL p1 s.code b],[vi c,vi d],Z,⟨_,_,Z,(qE (h.frG 3 0 1 Z Z Z)).1⟩,⟨[vi c],[vi d],Z,Z,Z⟩⟩) l) Z Z Z Z ?_;rintro _ _ ⟨z,_,rfl,h⟩;obtain⟨I,C,J,D,K,H,rfl,-,-,-⟩:=fk (h.own 0 Z);replace h:SH _ _ [oW z (x:aa) (lC x I J K C D H),xb a s p1 b A B,oX g (lC r1 t u v o k3 p) 175,oW S2 (r1:aa) (lC r1 t u v o k3 p),xf f w F s p1 b]:=h;refine Ag (h.p [2] Z) (Ao 4 31 Z (kh qa [.tmp 9,.tmp 12] _ ([r1,x]:List aa) [1,2,4] h Z Z Z Z Z Z Z Z Z (fU (qS 3 h Z) (fU (qS 0 h Z) pe Z) Z) Z Z fun _ L _ h=>G0 63 [5] (h.p [2] Z) Z (Ad ?_)));obtain rfl:=qe M;have h:=h.p [0,1,3] Z;exact bX qa [oV (List aa) [oS L 2 2]] ⟨Z,G⟩ ⟨_,_,Z,Cv 1 1 y h Z Z⟩
def gP(n:Nat)(s:qb)(kind:Int)(a_from:Int)(a_to:Int)(sense:Int):Option (bi×Int×Int):=bif decide (kind>=4) then(qt n (⟨s.code,s.at_,s.seed⟩:qb) 10).bind fun(d,f,g)=>(im n (⟨s.code,f,g⟩:qb) (qj (5-d))).bind fun(r1,h,i)=>V ((⟨kind,a_from,a_to,0,r1,[]⟩:bi),h,i) else(qt n (⟨s.code,s.at_,s.seed⟩:qb) 20).bind fun(k,l,i8)=>(im n (⟨s.code,l,i8⟩:qb) (qj (5+k))).bind fun(p,m,a)=>(im n (⟨s.code,m,a⟩:qb) 10).bind fun(r,b,c)=>V ((⟨kind,a_from,a_to,sense,p,r⟩:bi),b,c)
theorem kI{n g w F}{s:qb}{a p1 b kind a_from a_to sense}(t:SH g w (xb a s p1 b s.at_ s.seed::F))(u:qm.R w (Fr g F) s (ao s p1 b)){r:bi×Int×Int}(T:gP n s kind a_from a_to sense=V r):wX prog 267 [vp a,vi kind,vi a_from,vi a_to,vi sense] w (fun X w'=>∃S1 cs1,X=[oV bi cs1]/\SH g w' (oW S1 (r.1:bi) cs1::xb a s p1 b r.2.1 r.2.2::F)):=by
 have h:=Da t u;refine cp func267 Z (m:=36) Z Z (dE (qi qa h Z Z Z fun _ d h=>X0 7 Z (qp Z T ?_ ?_)))<;>intro T
 .refine X0 7 Z ?_;have h:=h.p [1,0,2] Z;obtain⟨⟨P,k,l⟩,y,T⟩:=qc T;refine lZ h (h.frG 2 0 1 Z Z Z) y Z Z Z fun _ h=>cq Z ?_;obtain⟨⟨r1,Q,R⟩,z,T⟩:=qc T;refine bA (cB 279 Z) (oo (s:=(⟨s.code,k,l⟩:qb)) (base:=(qj (5-P))) h (show qm.R _ _ ((⟨s.code,k,l⟩:qb):qb) _ from⟨[oL p1 s.code b],[vi k,vi l],Z,⟨_,_,Z,(qE (h.frG 2 0 1 Z Z Z)).1⟩,⟨[vi k],[vi l],Z,Z,Z⟩⟩) z) Z Z Z Z ?_;rintro _ _ ⟨S2,_,rfl,h⟩;obtain⟨M,K,rfl,-⟩:=h.own 0 Z;replace h:SH _ _ [oW S2 (r1:List aa) [oL M r1 K],xb a s p1 b Q R,oX d qdD 109,xf g w F s p1 b]:=h;refine dK (qC qa [0,1,2,4] [.tmp 14,.tmp 15,.tmp 16,.tmp 21] z8) Z (zs 2 h Z fun _ h=>ac ?_);have v:=h;obtain⟨_,h⟩:=h.gather [1,2,3] (C6 (⟨kind,a_from,a_to,0,r1,[]⟩:bi) h vk vk vk vk (qS 0 h Z) fc (by rfl) (by rfl) (by rfl) (by rfl) (by rfl)) Z;obtain rfl:=qe T;have h:=h.p [0,1,3] Z;exact bX qa [oV bi [vi kind,vi a_from,vi a_to,vi 0,oL M r1 K,oS U 0 0]] ⟨⟨_,_,_,Z,Z,v.box 2 Z,Z⟩,G⟩ ⟨_,_,Z,Cv 1 1 t h Z Z⟩
 refine X0 5 Z ?_;have h:=h.p [1,0,2] Z;obtain⟨⟨S,o,W⟩,A,T⟩:=qc T;refine lZ h (h.frG 2 0 1 Z Z Z) A Z Z Z fun _ h=>cq Z ?_;obtain⟨⟨f,i,c⟩,B,T⟩:=qc T;refine bA (cB 279 Z) (oo (s:=(⟨s.code,o,W⟩:qb)) (base:=(qj (5+S))) h (show qm.R _ _ ((⟨s.code,o,W⟩:qb):qb) _ from⟨[oL p1 s.code b],[vi o,vi W],Z,⟨_,_,Z,(qE (h.frG 2 0 1 Z Z Z)).1⟩,⟨[vi o],[vi W],Z,Z,Z⟩⟩) B) Z Z Z Z ?_;rintro _ _ ⟨J,_,rfl,h⟩;obtain⟨I,k3,rfl,-⟩:=h.own 0 Z;replace h:SH _ _ [oW J (f:List aa) [oL I f k3],xb a s p1 b i c,oX d qdD 109,xf g w F s p1 b]:=h;refine X0 10 Z ?_;have h:=h.p [1,0,2,3] Z;obtain⟨⟨p,D,H⟩,C,T⟩:=qc T;refine bA (cB 279 Z) (oo (s:=(⟨s.code,i,c⟩:qb)) (base:=10) h (show qm.R _ _ ((⟨s.code,i,c⟩:qb):qb) _ from⟨[oL p1 s.code b],[vi i,vi c],Z,⟨_,_,Z,(qE (h.frG 3 0 1 Z Z Z)).1⟩,⟨[vi i],[vi c],Z,Z,Z⟩⟩) C) Z Z Z Z ?_;rintro _ _ ⟨O,_,rfl,h⟩;obtain⟨N,L,rfl,-⟩:=h.own 0 Z;replace h:SH _ _ [oW O (p:List aa) [oL N p L],xb a s p1 b D H,oW J (f:List aa) [oL I f k3],oX d qdD 109,xf g w F s p1 b]:=h;refine dK (qC qa [0,1,2,3,4,5] [.tmp 28,.tmp 29,.tmp 30,.tmp 31,.tmp 32,.tmp 34] z8) Z (zs 3 h Z fun _ h=>ac ?_);have x:=h;obtain⟨_,h⟩:=h.gather [1,3,4] (C6 (⟨kind,a_from,a_to,sense,f,p⟩:bi) h vk vk vk vk (qS 2 h Z) (qS 0 h Z) (by rfl) (by rfl) (by rfl) (by rfl) (by rfl)) Z;obtain rfl:=qe T;have h:=h.p [0,1,3] Z;exact bX qa [oV bi [vi kind,vi a_from,vi a_to,vi sense,oL I f k3,oL N p L]] ⟨⟨_,_,_,Z,Z,x.box 3 Z,Z⟩,G⟩ ⟨_,_,Z,Cv 1 1 t h Z Z⟩
def kz(Ce:qb)(Cf:ByteArray)(Cg:List Int)(d:Int)(g:Int)(x1:List bj)(h:List bj):Nat->(List bi)->Int->Int->Int->Option ((List bi)×Int×Int×Int)|0,_,_,_,_=>U|n+1,i,b,c,a=>bif decide (a<(x1.length:Int)) then(yf n (⟨Cf,1,h,[],Cg,d,g⟩:qR) a).bind fun r1=>bif (r1 != 0) then(gP n (⟨Ce.code,b,c⟩:qb) 1 a (x1.length:Int) r1).bind fun(k,i16,f)=>(dj i ([k]:List bi)).bind fun l=>kz Ce Cf Cg d g x1 h n l i16 f (qj (a+1)) else kz Ce Cf Cg d g x1 h n i b c (qj (a+1)) else V (i,b,c,a)
def mo(Ce:qb)(Cg:List Int):Nat->(List bj)->Int->Int->Int->Option ((List bj)×Int×Int×Int)|0,_,_,_,_=>U|n+1,x1,f,i8,d=>bif decide (d<(Cg.length:Int)) then(qF ([(⟨#[97]⟩:ByteArray),(⟨#[98]⟩:ByteArray),(⟨#[99]⟩:ByteArray),(⟨#[100]⟩:ByteArray)]:List ByteArray) (x1.length:Int)).bind fun h=>(qt n (⟨Ce.code,f,i8⟩:qb) 9).bind fun(a,b,c)=>(dj x1 ([(⟨h,1,qj (1+a),Cd⟩:bj)]:List bj)).bind fun g=>mo Ce Cg n g b c (qj (2*d)) else V (x1,f,i8,d)
def mJ(n:Nat)(Ce:qb)(Cf:ByteArray)(Cg:List Int):Option (qR×Int×Int):=(qt n (⟨Ce.code,Ce.at_,Ce.seed⟩:qb) 50).bind fun(c,g,h)=>(qt n (⟨Ce.code,g,h⟩:qb) 80).bind fun(d,i,k)=>(mo Ce Cg n ([]:List bj) i k 1).bind fun(x1,l,i8,_)=>(dj x1 ([(⟨(⟨#[121]⟩:ByteArray),2,0,Cd⟩:bj)]:List bj)).bind fun f=>(kz Ce Cf Cg c d x1 f n ([]:List bi) l i8 0).bind fun(m,a,b,_)=>V ((⟨Cf,1,f,m,Cg,c,d⟩:qR),a,b)
theorem nN{n v w F}{Ce:qb}{a p1 k Cf}{Cg:List Int}{S1 c b}(h0:SH v w (xb a Ce p1 k Ce.at_ Ce.seed::oW S1 (Cg:List Int) [oL c Cg b]::F))(R:qm.R w (Fr v F) Ce (ao Ce p1 k)){r:qR×Int×Int}(hF:mJ n Ce Cf Cg=V r):wX prog 243 [vp a,.string Cf,oL c Cg b] w (fun us w'=>∃S2 cs1,us=[oV qR cs1]/\SH v w' (oW S2 (r.1:qR) cs1::xb a Ce p1 k r.2.1 r.2.2::F)):=by
 have h:=SH.frame [xb a Ce p1 k Ce.at_ Ce.seed,oW S1 (Cg:List Int) [oL c Cg b]] h0;have h:=h.grpAdd 2 Z R;replace h:SH _ _ [xb a Ce p1 k Ce.at_ Ce.seed,oW S1 (Cg:List Int) [oL c Cg b],xf v w F Ce p1 k]:=h;refine cp func243 Z (m:=71) Z Z (dE (qi qa h Z Z Z fun w1 o h=>OF (qv qa [.const (.string KQ),.const (.string KR),.const (.string qca),.const (.string O0)] _ ([KQ,KR,qca,O0]:List ByteArray) h z9 ⟨Z,Z,Z,Z,G⟩ Z fun _ p3 S3 h=>X0 7 Z ?_)));have h:=h.p [2,0,1,3,4] Z;obtain⟨⟨g,_,_⟩,T,hF⟩:=qc hF;refine lZ h (h.frG 4 0 1 Z Z Z) T Z Z Z fun _ h=>cq Z ?_;obtain⟨⟨i,_,_⟩,W,hF⟩:=qc hF;refine lZ h (h.frG 4 0 1 Z Z Z) W Z Z Z fun _ h=>dK (qC qa [0,1,4,5,6] [.tmp 16,.const (vi (1)),.tmp 17,.tmp 19,.tmp 21] z8) Z (qi qa h Z Z Z fun _ p h=>zs 0 h Z fun _ h=>OF (qv qa [] _ ([]:List bj) h z9 trivial Z fun _ _ _ h=>X0 7 Z ?_));obtain⟨o3,hF,P⟩:=qc hF;refine qr (rL (fun m e w'=>∃S5 p5 D k3 x1 i7 i8 i9,mo Ce Cg m x1 i7 i8 i9=V o3/\e=[(0,vp a),(2,oL c Cg b),(6,vp o),(7,oS p3 4 4),(8,vp p),(9,oS p5 D k3),(10,vi i9)]/\SH v w' [oW S5 (x1:List bj) [oS p5 D k3],oX p [.string Cf,vi 1,oS U 0 0,oS U 0 0,oL c Cg b,vi g,vi i] 106,xb a Ce p1 k i7 i8,oW S3 (([KQ,KR,qca,O0]:List ByteArray):List ByteArray) [oS p3 4 4],oX o qcZ 106,oW S1 (Cg:List Int) [oL c Cg b],xf v w F Ce p1 k]) n ⟨_,_,_,_,_,_,_,_,hF,Z,h⟩ Z ?_);rintro m1 _ _ ⟨S5,p5,D,k3,x1,i7,i8,i9,hF,rfl,h⟩;obtain rfl:=(h.sl 0 Z).2;rcases m1 with _|m1
 .cases hF
 refine X0 8 Z (qp Z hF ?_ ?_)<;>intro hF
 .refine TN (rA [] [3] h Z fun _ h=>M0 15 [0,1,2,3] (h.p [3] Z) Z ?_);obtain⟨y1,a3,hF,J,_,_,_,_,K,L,rfl,_⟩:=(h.sl 3 Z).1.ix hF;refine Ax 4 31 K L ⟨J.1,qD J.2.1 (h.sl 3 Z).2⟩ (h.p [3] Z) Z (Aw 5 63 (fun w' hw=>cR qa (qQ (w1:=w) (S1:=fun _=>False) hw 0 Z a3 K L Z) (j:=0) Z Z Z) (h.p [3] Z) Z ?_);refine M0 127 [6] (h.p [3] Z) Z (Ao 7 255 Z ?_);have h:=h.p [2,0,1,3,4,5,6] Z;obtain⟨⟨M,_,_⟩,X,hF⟩:=qc hF;refine lZ h (h.frG 6 0 1 Z Z Z) X Z Z Z fun _ h=>G0 511 [8] (h.p [3] Z) Z (Aw 9 1023 (fun w' hw=>qC qa [0,1,2] [.tmp 35,.const (vi (1)),.tmp 38] z8) (h.p [3] Z) Z ?_);refine Ao 10 2047 Z (qv qa [.tmp 39] _ ([(⟨y1,1,qj (1+M),Cd⟩:bj)]:List bj) h z9 ⟨(yB (⟨y1,1,qj (1+M),Cd⟩:bj)),G⟩ Z fun _ _ _ h=>Ag (h.p [4] Z) (Ao 11 4095 Z ?_));obtain⟨_,A,hF⟩:=qc hF;obtain⟨g1,A⟩:=qH A;refine bo qa 2 h Z (h.sl 0 Z).1 (h.sl 0 Z).2 z9 g1 A Z fun _ _ _ _ h=>G0 8191 [12] (h.p [4] Z) Z (Ad (X0 6 Z ?_));exact rK ⟨_,_,_,_,_,_,_,_,hF,Z,h.p [2,3,1,4,5,6,7] Z⟩ Z
 refine qx Z ?_;cases qe hF;replace hF:=P;refine X0 9 Z (dK (qC qa [0,1] [.const (.string E9),.const (vi (2))] z8) Z (qv qa [.tmp 45] _ ([(⟨E9,2,0,Cd⟩:bj)]:List bj) h z9 ⟨(yB (⟨E9,2,0,Cd⟩:bj)),G⟩ Z fun _ _ _ h=>?_));obtain⟨l,B,hF⟩:=qc hF;obtain⟨g2,B⟩:=qH B;refine bo qa 1 h Z (h.sl 0 Z).1 (h.sl 0 Z).2 z9 g2 B Z fun _ y x S9 h=>cq Z (zs 2 h Z fun _ h=>OF (kh qa [] _ ([]:List bi) [0,1,2,3,4,5,6,7] h Z Z Z Z Z Z Z Z Z pe Z Z fun _ _ _ h=>X0 7 Z ?_));obtain⟨o5,hF,Q⟩:=qc hF;refine qr ?_;have h:=h.p [0,2,3,4,6,7,8] Z;refine rL (fun m e w'=>∃z t H N I d f u,kz Ce Cf Cg g i x1 l m I d f u=V o5/\e=[(0,vp a),(6,vp o),(8,vp p),(11,vi (x1.length:Int)),(12,oS t H N),(13,vi u)]/\SH v w' [oW z (I:List bi) [oS t H N],oW S9 (l:List bj) [oL y l x],oX p [.string Cf,vi 1,oL y l x,oS U 0 0,oL c Cg b,vi g,vi i] 106,xb a Ce p1 k d f,oX o qcZ 106,oW S1 (Cg:List Int) [oL c Cg b],xf v w F Ce p1 k]) n ⟨_,_,_,_,_,_,_,_,hF,Z,h⟩ Z ?_;rintro m2 _ _ ⟨z,t,H,N,I,d,f,u,hF,rfl,h⟩;obtain rfl:=(h.sl 0 Z).2;rcases m2 with _|m2
 .cases hF
 refine X0 7 Z (qp Z hF ?_ ?_)<;>intro hF
 .refine X1 7 2 h Z (mN h hF (IR (show qm.R _ _ ((⟨Cf,1,l,[],Cg,g,i⟩:qR):qR) _ from⟨[.string Cf],[vi 1,oL y l x,oS U 0 0,oL c Cg b,vi g,vi i],Z,Z,⟨[vi 1],[oL y l x,oS U 0 0,oL c Cg b,vi g,vi i],Z,Z,⟨[oL y l x],[oS U 0 0,oL c Cg b,vi g,vi i],Z,(h.own 1 Z),⟨[oS U 0 0],[oL c Cg b,vi g,vi i],Z,⟨_,_,Z,uP⟩,⟨[oL c Cg b],[vi g,vi i],Z,(h.own 5 Z),⟨[vi g],[vi i],Z,Z,Z⟩⟩⟩⟩⟩⟩)) Z fun r1 _ h hF=>X0 7 Z (qp Z hF ?_ ?_))<;>intro hF
  .refine X0 6 Z ?_;have h:=h.p [3,0,1,2,4,5,6] Z;obtain⟨⟨r2,i16,a4⟩,Y,hF⟩:=qc hF;refine bA (cB 267 Z) (kI (s:=(⟨Ce.code,d,f⟩:qb)) (kind:=1) (a_from:=u) (a_to:=(x1.length:Int)) (sense:=r1) h (show qm.R _ _ ((⟨Ce.code,d,f⟩:qb):qb) _ from⟨[oL p1 Ce.code k],[vi d,vi f],Z,⟨_,_,Z,(qE (h.frG 6 0 1 Z Z Z)).1⟩,⟨[vi d],[vi f],Z,Z,Z⟩⟩) Y) Z Z Z Z ?_;rintro _ _ ⟨O,_,rfl,h⟩;obtain⟨p12,k7,p13,k8,rfl,-,-⟩:=bq (h.own 0 Z);replace h:SH _ _ [oW O (r2:bi) (kq r2 p12 p13 k7 k8),xb a Ce p1 k i16 a4,oW z (I:List bi) [oL t I N],oW S9 (l:List bj) [oL y l x],oX p [.string Cf,vi 1,oL y l x,oS U 0 0,oL c Cg b,vi g,vi i] 106,oX o qcZ 106,oW S1 (Cg:List Int) [oL c Cg b],xf v w F Ce p1 k]:=h;refine kh qa [.tmp 65] _ ([r2]:List bi) [1,2,3,4,5,6,7] h Z Z Z Z Z Z Z Z Z (fU (qS 0 h Z) pe Z) Z Z fun _ _ _ h=>?_;obtain⟨_,C,hF⟩:=qc hF;obtain⟨g3,C⟩:=qH C;have h:=h.p [0,2,1,3,4,5,6,7] Z;refine zA qa h Z Z Z Z Z Z Z Z Z g3 C Z fun _ _ _ _ h=>X0 8 Z ?_;exact rK ⟨_,_,_,_,_,_,_,_,hF,Z,h.p [0,2,3,1,4,5,6] Z⟩ Z
  exact X0 7 Z (rK ⟨_,_,_,_,_,_,_,_,hF,Z,h⟩ Z)
 refine qx Z ?_;cases qe hF;replace hF:=Q;refine X0 4 Z (zs 2 h Z fun _ h=>X1 4 2 h Z (zs 4 h Z fun _ h=>ac ?_));have S:=h;obtain⟨_,h⟩:=h.gather [2,3,4,6] (NJ (⟨Cf,1,l,I,Cg,g,i⟩:qR) h vk vk (qS 1 h Z) (qS 0 h Z) (qS 5 h Z) vk vk (by rfl) (by rfl) (by rfl) (by rfl) (by rfl) (by rfl)) Z;obtain rfl:=qe hF;have h:=h.p [0,2,4] Z;exact bX qa [oV qR [.string Cf,vi 1,oL y l x,oL t I N,oL c Cg b,vi g,vi i]] ⟨⟨_,_,_,Z,Z,S.box 4 Z,Z⟩,G⟩ ⟨_,_,Z,Cv 2 1 h0 h Z Z⟩
def lk(n:Nat)(s:qb)(name:ByteArray)(kind:Int)(edge:Int):Option (qR×Int×Int):=(qt n (⟨s.code,s.at_,s.seed⟩:qb) 50).bind fun(m,v,x)=>(qt n (⟨s.code,v,x⟩:qb) 80).bind fun(p,y,z)=>(qt n (⟨s.code,y,z⟩:qb) 9).bind fun|(r,i8,A)=>(qt n (⟨s.code,i8,A⟩:qb) 9).bind fun(a,d,f)=>(gP n (⟨s.code,d,f⟩:qb) edge 1 2 0).bind fun(r1,g,h)=>(gP n (⟨s.code,g,h⟩:qb) 4 1 0 0).bind fun(t,i,i16)=>(gP n (⟨s.code,i,i16⟩:qb) 5 1 0 0).bind fun(u,b,c)=>bif (kind==3) then(gP n (⟨s.code,b,c⟩:qb) 1 0 2 1).bind fun|(B,k,l)=>(dj ([r1,t,u]:List bi) ([B]:List bi)).bind fun x1=>V ((⟨name,kind,([(⟨(⟨#[100]⟩:ByteArray),1,qj (1+r),Cd⟩:bj),(⟨(⟨#[99,107]⟩:ByteArray),1,qj (1+a),An⟩:bj),(⟨(⟨#[113]⟩:ByteArray),2,0,Cd⟩:bj)]:List bj),x1,[],m,p⟩:qR),k,l) else V ((⟨name,kind,([(⟨(⟨#[100]⟩:ByteArray),1,qj (1+r),Cd⟩:bj),(⟨(⟨#[99,107]⟩:ByteArray),1,qj (1+a),An⟩:bj),(⟨(⟨#[113]⟩:ByteArray),2,0,Cd⟩:bj)]:List bj),([r1,t,u]:List bi),[],m,p⟩:qR),b,c)
theorem pP{n B w F}{s:qb}{b p1 c name kind edge}(H:SH B w (xb b s p1 c s.at_ s.seed::F))(I:qm.R w (Fr B F) s (ao s p1 c)){r:qR×Int×Int}(hF:lk n s name kind edge=V r):wX prog 244 [vp b,.string name,vi kind,vi edge] w (fun us w'=>∃S1 cs1,us=[oV qR cs1]/\SH B w' (oW S1 (r.1:qR) cs1::xb b s p1 c r.2.1 r.2.2::F)):=by
 have h:=Da H I;refine cp func244 Z (m:=47) Z Z (dE (qi qa h Z Z Z fun _ o h=>X0 6 Z ?_));have h:=h.p [1,0,2] Z;obtain⟨⟨v,_,_⟩,L,hF⟩:=qc hF;refine lZ h (h.frG 2 0 1 Z Z Z) L Z Z Z fun _ h=>cq Z ?_;obtain⟨⟨x,_,_⟩,M,hF⟩:=qc hF;refine lZ h (h.frG 2 0 1 Z Z Z) M Z Z Z fun _ h=>dK (qC qa [0,1,5,6] [.tmp 11,.tmp 12,.tmp 14,.tmp 16] z8) Z (qi qa h Z Z Z fun _ p h=>zs 0 h Z fun _ h=>X0 4 Z ?_);have h:=h.p [1,0,2,3] Z;obtain⟨⟨y,_,_⟩,N,hF⟩:=qc hF;refine lZ h (h.frG 3 0 1 Z Z Z) N Z Z Z fun _ h=>cq Z (dK (qC qa [0,1,2] [.const (.string O0),.const (vi (1)),.tmp 20] z8) Z (cq Z ?_));obtain⟨⟨a,t,u⟩,O,hF⟩:=qc hF;refine lZ h (h.frG 3 0 1 Z Z Z) O Z Z Z fun _ h=>cq Z (dK (qC qa [0,1,2,3] [.const (.string AD),.const (vi (1)),.tmp 24,.const (.bool An)] z8) Z (dK (qC qa [0,1] [.const (.string RO),.const (vi (2))] z8) Z (qv qa [.tmp 21,.tmp 25,.tmp 26] _ ([(⟨O0,1,qj (1+y),Cd⟩:bj),(⟨AD,1,qj (1+a),An⟩:bj),(⟨RO,2,0,Cd⟩:bj)]:List bj) h z9 ⟨(yB (⟨O0,1,qj (1+y),Cd⟩:bj)),(yB (⟨AD,1,qj (1+a),An⟩:bj)),(yB (⟨RO,2,0,Cd⟩:bj)),G⟩ Z fun _ l S2 h=>cq Z (zs 2 h Z fun _ h=>X0 5 Z ?_))));have h:=h.p [1,0,2,3,4] Z;obtain⟨⟨r1,d,f⟩,P,hF⟩:=qc hF;refine bA (cB 267 Z) (kI (s:=(⟨s.code,t,u⟩:qb)) (kind:=edge) (a_from:=1) (a_to:=2) (sense:=0) h (show qm.R _ _ ((⟨s.code,t,u⟩:qb):qb) _ from⟨[oL p1 s.code c],[vi t,vi u],Z,⟨_,_,Z,(qE (h.frG 4 0 1 Z Z Z)).1⟩,⟨[vi t],[vi u],Z,Z,Z⟩⟩) P) Z Z Z Z ?_;rintro _ _ ⟨D,_,rfl,h⟩;obtain⟨p3,Y,p4,k3,rfl,-,-⟩:=bq (h.own 0 Z);replace h:SH _ _ [oW D (r1:bi) (kq r1 p3 p4 Y k3),xb b s p1 c d f,oW S2 (([(⟨O0,1,qj (1+y),Cd⟩:bj),(⟨AD,1,qj (1+a),An⟩:bj),(⟨RO,2,0,Cd⟩:bj)]:List bj):List bj) [oS l 3 3],oX p [.string name,vi kind,oS l 3 3,oS U 0 0,oS U 0 0,vi v,vi x] 106,oX o qcZ 106,xf B w F s p1 c]:=h;refine cq Z ?_;have h:=h.p [1,0,2,3,4,5] Z;obtain⟨⟨A,g,i16⟩,Q,hF⟩:=qc hF;refine bA (cB 267 Z) (kI (s:=(⟨s.code,d,f⟩:qb)) (kind:=4) (a_from:=1) (a_to:=0) (sense:=0) h (show qm.R _ _ ((⟨s.code,d,f⟩:qb):qb) _ from⟨[oL p1 s.code c],[vi d,vi f],Z,⟨_,_,Z,(qE (h.frG 5 0 1 Z Z Z)).1⟩,⟨[vi d],[vi f],Z,Z,Z⟩⟩) Q) Z Z Z Z ?_;rintro _ _ ⟨S4,_,rfl,h⟩;obtain⟨p5,k4,p6,k5,rfl,-,-⟩:=bq (h.own 0 Z);replace h:SH _ _ [oW S4 (A:bi) (kq A p5 p6 k4 k5),xb b s p1 c g i16,oW D (r1:bi) (kq r1 p3 p4 Y k3),oW S2 (([(⟨O0,1,qj (1+y),Cd⟩:bj),(⟨AD,1,qj (1+a),An⟩:bj),(⟨RO,2,0,Cd⟩:bj)]:List bj):List bj) [oS l 3 3],oX p [.string name,vi kind,oS l 3 3,oS U 0 0,oS U 0 0,vi v,vi x] 106,oX o qcZ 106,xf B w F s p1 c]:=h;refine cq Z ?_;have h:=h.p [1,0,2,3,4,5,6] Z;obtain⟨⟨C,i,k⟩,R,hF⟩:=qc hF;refine bA (cB 267 Z) (kI (s:=(⟨s.code,g,i16⟩:qb)) (kind:=5) (a_from:=1) (a_to:=0) (sense:=0) h (show qm.R _ _ ((⟨s.code,g,i16⟩:qb):qb) _ from⟨[oL p1 s.code c],[vi g,vi i16],Z,⟨_,_,Z,(qE (h.frG 6 0 1 Z Z Z)).1⟩,⟨[vi g],[vi i16],Z,Z,Z⟩⟩) R) Z Z Z Z ?_;rintro _ _ ⟨S5,_,rfl,h⟩;obtain⟨p7,k6,p8,k7,rfl,-,-⟩:=bq (h.own 0 Z);replace h:SH _ _ [oW S5 (C:bi) (kq C p7 p8 k6 k7),xb b s p1 c i k,oW S4 (A:bi) (kq A p5 p6 k4 k5),oW D (r1:bi) (kq r1 p3 p4 Y k3),oW S2 (([(⟨O0,1,qj (1+y),Cd⟩:bj),(⟨AD,1,qj (1+a),An⟩:bj),(⟨RO,2,0,Cd⟩:bj)]:List bj):List bj) [oS l 3 3],oX p [.string name,vi kind,oS l 3 3,oS U 0 0,oS U 0 0,vi v,vi x] 106,oX o qcZ 106,xf B w F s p1 c]:=h;refine kh qa [.tmp 31,.tmp 33,.tmp 35] _ ([r1,A,C]:List bi) [1,4,5,6,7] h Z Z Z Z Z Z Z Z Z (fU (qS 3 h Z) (fU (qS 2 h Z) (fU (qS 0 h Z) pe Z) Z) Z) Z Z fun _ p9 S6 h=>X0 8 Z (qp Z hF ?_ ?_)<;>intro hF
 .refine X0 3 Z ?_;have h:=h.p [1,0,2,3,4,5] Z;obtain⟨⟨r4,T,W⟩,S,hF⟩:=qc hF;refine bA (cB 267 Z) (kI (s:=(⟨s.code,i,k⟩:qb)) (kind:=1) (a_from:=0) (a_to:=2) (sense:=1) h (show qm.R _ _ ((⟨s.code,i,k⟩:qb):qb) _ from⟨[oL p1 s.code c],[vi i,vi k],Z,⟨_,_,Z,(qE (h.frG 5 0 1 Z Z Z)).1⟩,⟨[vi i],[vi k],Z,Z,Z⟩⟩) S) Z Z Z Z ?_;rintro _ _ ⟨S7,_,rfl,h⟩;obtain⟨e,k8,a3,k9,rfl,-,-⟩:=bq (h.own 0 Z);replace h:SH _ _ [oW S7 (r4:bi) (kq r4 e a3 k8 k9),xb b s p1 c T W,oW S6 (([r1,A,C]:List bi):List bi) [oS p9 3 3],oW S2 (([(⟨O0,1,qj (1+y),Cd⟩:bj),(⟨AD,1,qj (1+a),An⟩:bj),(⟨RO,2,0,Cd⟩:bj)]:List bj):List bj) [oS l 3 3],oX p [.string name,vi kind,oS l 3 3,oS U 0 0,oS U 0 0,vi v,vi x] 106,oX o qcZ 106,xf B w F s p1 c]:=h;refine kh qa [.tmp 41] _ ([r4]:List bi) [1,2,3,4,5,6] h Z Z Z Z Z Z Z Z Z (fU (qS 0 h Z) pe Z) Z Z fun _ _ _ h=>?_;obtain⟨x1,z,hF⟩:=qc hF;obtain⟨g1,z⟩:=qH z;have h:=h.p [0,2,1,3,4,5,6] Z;refine zA qa h Z Z Z Z Z Z Z Z Z g1 z Z fun _ a4 X _ h=>X0 6 Z (zs 3 h Z fun _ h=>X1 4 3 h Z (zs 4 h Z fun _ h=>ac ?_));have J:=h;obtain⟨_,h⟩:=h.gather [1,3,4,5] (NJ (⟨name,kind,([(⟨O0,1,qj (1+y),Cd⟩:bj),(⟨AD,1,qj (1+a),An⟩:bj),(⟨RO,2,0,Cd⟩:bj)]:List bj),x1,[],v,x⟩:qR) h vk vk (qS 2 h Z) (qS 0 h Z) fc vk vk (by rfl) (by rfl) (by rfl) (by rfl) (by rfl) (by rfl)) Z;obtain rfl:=qe hF;have h:=h.p [0,1,4] Z;exact bX qa [oV qR [.string name,vi kind,oS l 3 3,oL a4 x1 X,oS U 0 0,vi v,vi x]] ⟨⟨_,_,_,Z,Z,J.box 4 Z,Z⟩,G⟩ ⟨_,_,Z,Cv 1 1 H h Z Z⟩
 refine X0 5 Z (zs 3 h Z fun _ h=>X1 4 3 h Z (zs 4 h Z fun _ h=>ac ?_));have K:=h;obtain⟨_,h⟩:=h.gather [1,3,4,5] (NJ (⟨name,kind,([(⟨O0,1,qj (1+y),Cd⟩:bj),(⟨AD,1,qj (1+a),An⟩:bj),(⟨RO,2,0,Cd⟩:bj)]:List bj),([r1,A,C]:List bi),[],v,x⟩:qR) h vk vk (qS 2 h Z) (qS 0 h Z) fc vk vk (by rfl) (by rfl) (by rfl) (by rfl) (by rfl) (by rfl)) Z;obtain rfl:=qe hF;have h:=h.p [0,1,4] Z;exact bX qa [oV qR [.string name,vi kind,oS l 3 3,oS p9 3 3,oS U 0 0,vi v,vi x]] ⟨⟨_,_,_,Z,Z,K.box 4 Z,Z⟩,G⟩ ⟨_,_,Z,Cv 1 1 H h Z Z⟩
def wa(n:Nat)(s:qb):Option (qB×Int×Int):=(mJ n (⟨s.code,s.at_,s.seed⟩:qb) (⟨#[105,110,118]⟩:ByteArray) ([1,0]:List Int)).bind fun(r1,h,i)=>(mJ n (⟨s.code,h,i⟩:qb) (⟨#[98,117,102]⟩:ByteArray) ([0,1]:List Int)).bind fun(u,k,l)=>(mJ n (⟨s.code,k,l⟩:qb) (⟨#[110,97,110,100]⟩:ByteArray) ([1,1,1,0]:List Int)).bind fun(v,m,p)=>(mJ n (⟨s.code,m,p⟩:qb) (⟨#[120,111,114]⟩:ByteArray) ([0,1,1,0]:List Int)).bind fun(x,r,i8)=>(mJ n (⟨s.code,r,i8⟩:qb) (⟨#[109,117,120]⟩:ByteArray) ([0,1,0,1,0,0,1,1]:List Int)).bind fun(y,t,a)=>(lk n (⟨s.code,t,a⟩:qb) (⟨#[102,108,111,112]⟩:ByteArray) 2 2).bind fun(z,b,c)=>(lk n (⟨s.code,b,c⟩:qb) (⟨#[102,108,111,112,110]⟩:ByteArray) 2 3).bind fun|(A,d,f)=>(lk n (⟨s.code,d,f⟩:qb) (⟨#[108,97,116,99,104]⟩:ByteArray) 3 2).bind fun|(B,g,i16)=>V ((⟨([r1,u,v,x,y,z,A,B]:List qR)⟩:qB),g,i16)
theorem IP{n w0 w F}{s:qb}{b p1 a}(h0:SH w0 w (xb b s p1 a s.at_ s.seed::F))(ha1:qm.R w (Fr w0 F) s (ao s p1 a)){r:qB×Int×Int}(hF:wa n s=V r):wX prog 204 [vp b] w (fun us w'=>∃S1 cs1,us=[oV qB cs1]/\SH w0 w' (oW S1 (r.1:qB) cs1::xb b s p1 a r.2.1 r.2.2::F)):=by
 have h:=Da h0 ha1;refine cp func204 Z (m:=45) Z Z (dE (qi qa h Z Z Z fun _ x h=>OF (dK (qC qa [] [] z8) Z (qi qa h Z Z Z fun _ y h=>zs 0 h Z fun _ h=>X0 4 Z (qv qa [.const (vi (1)),.const (vi (0))] _ ([1,0]:List Int) h z9 ⟨Z,Z,G⟩ Z fun _ _ _ h=>?_)))));have h:=h.p [3,0,1,2,4] Z;obtain⟨⟨r1,i1,i2⟩,hr1,hF⟩:=qc hF;refine bA (cB 243 Z) (nN (Ce:=s) (Cf:=(⟨#[105,110,118]⟩:ByteArray)) (Cg:=([1,0]:List Int)) h (show qm.R _ _ (s:qb) _ from⟨[oL p1 s.code a],[vi s.at_,vi s.seed],Z,⟨_,_,Z,(qE (h.frG 4 0 2 Z Z Z)).1⟩,⟨[vi s.at_],[vi s.seed],Z,Z,Z⟩⟩) hr1) Z Z Z Z ?_;rintro _ _ ⟨S3,_,rfl,h⟩;obtain⟨M,H,N,k3,O,I,rfl,-,-,-⟩:=aV (h.own 0 Z);replace h:SH _ _ [oW S3 (r1:qR) (qO r1 M N O H k3 I),xb b s p1 a i1 i2,oX y [oS U 0 0] 26,oX x [oS U 0 0] 26,xf w0 w F s p1 a]:=h;refine qi qa h Z Z Z fun _ A h=>zs 0 h Z fun _ h=>X0 4 Z (qv qa [.const (vi (0)),.const (vi (1))] _ ([0,1]:List Int) h z9 ⟨Z,Z,G⟩ Z fun _ _ _ h=>?_);have h:=h.p [3,0,1,2,4,5,6] Z;obtain⟨⟨i,i3,i4⟩,hr2,hF⟩:=qc hF;refine bA (cB 243 Z) (nN (Ce:=(⟨s.code,i1,i2⟩:qb)) (Cf:=(⟨#[98,117,102]⟩:ByteArray)) (Cg:=([0,1]:List Int)) h (show qm.R _ _ ((⟨s.code,i1,i2⟩:qb):qb) _ from⟨[oL p1 s.code a],[vi i1,vi i2],Z,⟨_,_,Z,(qE (h.frG 6 0 2 Z Z Z)).1⟩,⟨[vi i1],[vi i2],Z,Z,Z⟩⟩) hr2) Z Z Z Z ?_;rintro _ _ ⟨S5,_,rfl,h⟩;obtain⟨T,Q,W,R,X,S,rfl,-,-,-⟩:=aV (h.own 0 Z);replace h:SH _ _ [oW S5 (i:qR) (qO i T W X Q R S),xb b s p1 a i3 i4,oX A (qO r1 M N O H k3 I) 106,oW S3 (r1:qR) (qO r1 M N O H k3 I),oX y [oS U 0 0] 26,oX x [oS U 0 0] 26,xf w0 w F s p1 a]:=h;refine qi qa h Z Z Z fun _ P h=>zs 0 h Z fun _ h=>X0 4 Z (qv qa [.const (vi (1)),.const (vi (1)),.const (vi (1)),.const (vi (0))] _ ([1,1,1,0]:List Int) h z9 ⟨Z,Z,Z,Z,G⟩ Z fun _ _ _ h=>?_);have h:=h.p [3,0,1,2,4,5,6,7,8] Z;obtain⟨⟨v,i5,i6⟩,hr3,hF⟩:=qc hF;refine bA (cB 243 Z) (nN (Ce:=(⟨s.code,i3,i4⟩:qb)) (Cf:=(⟨#[110,97,110,100]⟩:ByteArray)) (Cg:=([1,1,1,0]:List Int)) h (show qm.R _ _ ((⟨s.code,i3,i4⟩:qb):qb) _ from⟨[oL p1 s.code a],[vi i3,vi i4],Z,⟨_,_,Z,(qE (h.frG 8 0 2 Z Z Z)).1⟩,⟨[vi i3],[vi i4],Z,Z,Z⟩⟩) hr3) Z Z Z Z ?_;rintro _ _ ⟨S7,_,rfl,h⟩;obtain⟨d,k8,f,k9,g,c,rfl,-,-,-⟩:=aV (h.own 0 Z);replace h:SH _ _ [oW S7 (v:qR) (qO v d f g k8 k9 c),xb b s p1 a i5 i6,oX P (qO i T W X Q R S) 106,oW S5 (i:qR) (qO i T W X Q R S),oX A (qO r1 M N O H k3 I) 106,oW S3 (r1:qR) (qO r1 M N O H k3 I),oX y [oS U 0 0] 26,oX x [oS U 0 0] 26,xf w0 w F s p1 a]:=h;refine qi qa h Z Z Z fun _ e h=>zs 0 h Z fun _ h=>X0 4 Z (qv qa [.const (vi (0)),.const (vi (1)),.const (vi (1)),.const (vi (0))] _ ([0,1,1,0]:List Int) h z9 ⟨Z,Z,Z,Z,G⟩ Z fun _ _ _ h=>?_);have h:=h.p [3,0,1,2,4,5,6,7,8,9,10] Z;obtain⟨⟨z,i7,i8⟩,hr4,hF⟩:=qc hF;refine bA (cB 243 Z) (nN (Ce:=(⟨s.code,i5,i6⟩:qb)) (Cf:=(⟨#[120,111,114]⟩:ByteArray)) (Cg:=([0,1,1,0]:List Int)) h (show qm.R _ _ ((⟨s.code,i5,i6⟩:qb):qb) _ from⟨[oL p1 s.code a],[vi i5,vi i6],Z,⟨_,_,Z,(qE (h.frG 10 0 2 Z Z Z)).1⟩,⟨[vi i5],[vi i6],Z,Z,Z⟩⟩) hr4) Z Z Z Z ?_;rintro _ _ ⟨S9,_,rfl,h⟩;obtain⟨p,k,t,l,u,o,rfl,-,-,-⟩:=aV (h.own 0 Z);replace h:SH _ _ [oW S9 (z:qR) (qO z p t u k l o),xb b s p1 a i7 i8,oX e (qO v d f g k8 k9 c) 106,oW S7 (v:qR) (qO v d f g k8 k9 c),oX P (qO i T W X Q R S) 106,oW S5 (i:qR) (qO i T W X Q R S),oX A (qO r1 M N O H k3 I) 106,oW S3 (r1:qR) (qO r1 M N O H k3 I),oX y [oS U 0 0] 26,oX x [oS U 0 0] 26,xf w0 w F s p1 a]:=h;refine qi qa h Z Z Z fun _ bb7 h=>zs 0 h Z fun _ h=>X0 4 Z (qv qa [.const (vi (0)),.const (vi (1)),.const (vi (0)),.const (vi (1)),.const (vi (0)),.const (vi (0)),.const (vi (1)),.const (vi (1))] _ ([0,1,0,1,0,0,1,1]:List Int) h z9 ⟨Z,Z,Z,Z,Z,Z,Z,Z,G⟩ Z fun _ _ _ h=>?_);have h:=h.p [3,0,1,2,4,5,6,7,8,9,10,11,12] Z;obtain⟨⟨Y,i9,a3⟩,hr5,hF⟩:=qc hF;refine bA (cB 243 Z) (nN (Ce:=(⟨s.code,i7,i8⟩:qb)) (Cf:=(⟨#[109,117,120]⟩:ByteArray)) (Cg:=([0,1,0,1,0,0,1,1]:List Int)) h (show qm.R _ _ ((⟨s.code,i7,i8⟩:qb):qb) _ from⟨[oL p1 s.code a],[vi i7,vi i8],Z,⟨_,_,Z,(qE (h.frG 12 0 2 Z Z Z)).1⟩,⟨[vi i7],[vi i8],Z,Z,Z⟩⟩) hr5) Z Z Z Z ?_;rintro _ _ ⟨S11,_,rfl,h⟩;obtain⟨J,B,K,C,L,D,rfl,-,-,-⟩:=aV (h.own 0 Z);replace h:SH _ _ [oW S11 (Y:qR) (qO Y J K L B C D),xb b s p1 a i9 a3,oX bb7 (qO z p t u k l o) 106,oW S9 (z:qR) (qO z p t u k l o),oX e (qO v d f g k8 k9 c) 106,oW S7 (v:qR) (qO v d f g k8 k9 c),oX P (qO i T W X Q R S) 106,oW S5 (i:qR) (qO i T W X Q R S),oX A (qO r1 M N O H k3 I) 106,oW S3 (r1:qR) (qO r1 M N O H k3 I),oX y [oS U 0 0] 26,oX x [oS U 0 0] 26,xf w0 w F s p1 a]:=h;refine qi qa h Z Z Z fun _ bb8 h=>zs 0 h Z fun _ h=>X0 4 Z ?_;have h:=h.p [2,0,1,3,4,5,6,7,8,9,10,11,12,13] Z;obtain⟨⟨r6,a4,a5⟩,hr6,hF⟩:=qc hF;refine bA (cB 244 Z) (pP (s:=(⟨s.code,i9,a3⟩:qb)) (name:=(⟨#[102,108,111,112]⟩:ByteArray)) (kind:=2) (edge:=2) h (show qm.R _ _ ((⟨s.code,i9,a3⟩:qb):qb) _ from⟨[oL p1 s.code a],[vi i9,vi a3],Z,⟨_,_,Z,(qE (h.frG 13 0 1 Z Z Z)).1⟩,⟨[vi i9],[vi a3],Z,Z,Z⟩⟩) hr6) Z Z Z Z ?_;rintro _ _ ⟨S12,_,rfl,h⟩;obtain⟨p22,a8,p23,a9,p24,b4,rfl,-,-,-⟩:=aV (h.own 0 Z);replace h:SH _ _ [oW S12 (r6:qR) (qO r6 p22 p23 p24 a8 a9 b4),xb b s p1 a a4 a5,oX bb8 (qO Y J K L B C D) 106,oW S11 (Y:qR) (qO Y J K L B C D),oX bb7 (qO z p t u k l o) 106,oW S9 (z:qR) (qO z p t u k l o),oX e (qO v d f g k8 k9 c) 106,oW S7 (v:qR) (qO v d f g k8 k9 c),oX P (qO i T W X Q R S) 106,oW S5 (i:qR) (qO i T W X Q R S),oX A (qO r1 M N O H k3 I) 106,oW S3 (r1:qR) (qO r1 M N O H k3 I),oX y [oS U 0 0] 26,oX x [oS U 0 0] 26,xf w0 w F s p1 a]:=h;refine qi qa h Z Z Z fun _ bb9 h=>zs 0 h Z fun _ h=>X0 4 Z ?_;have h:=h.p [2,0,1,3,4,5,6,7,8,9,10,11,12,13,14,15] Z;obtain⟨⟨r7,a6,a7⟩,hr7,hF⟩:=qc hF;refine bA (cB 244 Z) (pP (s:=(⟨s.code,a4,a5⟩:qb)) (name:=(⟨#[102,108,111,112,110]⟩:ByteArray)) (kind:=2) (edge:=3) h (show qm.R _ _ ((⟨s.code,a4,a5⟩:qb):qb) _ from⟨[oL p1 s.code a],[vi a4,vi a5],Z,⟨_,_,Z,(qE (h.frG 15 0 1 Z Z Z)).1⟩,⟨[vi a4],[vi a5],Z,Z,Z⟩⟩) hr7) Z Z Z Z ?_;rintro _ _ ⟨S13,_,rfl,h⟩;obtain⟨p25,k20,p26,k21,p27,k22,rfl,-,-,-⟩:=aV (h.own 0 Z);replace h:SH _ _ [oW S13 (r7:qR) (qO r7 p25 p26 p27 k20 k21 k22),xb b s p1 a a6 a7,oX bb9 (qO r6 p22 p23 p24 a8 a9 b4) 106,oW S12 (r6:qR) (qO r6 p22 p23 p24 a8 a9 b4),oX bb8 (qO Y J K L B C D) 106,oW S11 (Y:qR) (qO Y J K L B C D),oX bb7 (qO z p t u k l o) 106,oW S9 (z:qR) (qO z p t u k l o),oX e (qO v d f g k8 k9 c) 106,oW S7 (v:qR) (qO v d f g k8 k9 c),oX P (qO i T W X Q R S) 106,oW S5 (i:qR) (qO i T W X Q R S),oX A (qO r1 M N O H k3 I) 106,oW S3 (r1:qR) (qO r1 M N O H k3 I),oX y [oS U 0 0] 26,oX x [oS U 0 0] 26,xf w0 w F s p1 a]:=h;refine qi qa h Z Z Z fun _ bb10 h=>zs 0 h Z fun _ h=>X0 4 Z ?_;have h:=h.p [2,0,1,3,4,5,6,7,8,9,10,11,12,13,14,15,16,17] Z;obtain⟨⟨r8,i15,i16⟩,hr8,hF⟩:=qc hF;refine bA (cB 244 Z) (pP (s:=(⟨s.code,a6,a7⟩:qb)) (name:=(⟨#[108,97,116,99,104]⟩:ByteArray)) (kind:=3) (edge:=2) h (show qm.R _ _ ((⟨s.code,a6,a7⟩:qb):qb) _ from⟨[oL p1 s.code a],[vi a6,vi a7],Z,⟨_,_,Z,(qE (h.frG 17 0 1 Z Z Z)).1⟩,⟨[vi a6],[vi a7],Z,Z,Z⟩⟩) hr8) Z Z Z Z ?_;rintro _ _ ⟨S14,_,rfl,h⟩;obtain⟨p28,k23,p29,k24,p30,k25,rfl,-,-,-⟩:=aV (h.own 0 Z);replace h:SH _ _ [oW S14 (r8:qR) (qO r8 p28 p29 p30 k23 k24 k25),xb b s p1 a i15 i16,oX bb10 (qO r7 p25 p26 p27 k20 k21 k22) 106,oW S13 (r7:qR) (qO r7 p25 p26 p27 k20 k21 k22),oX bb9 (qO r6 p22 p23 p24 a8 a9 b4) 106,oW S12 (r6:qR) (qO r6 p22 p23 p24 a8 a9 b4),oX bb8 (qO Y J K L B C D) 106,oW S11 (Y:qR) (qO Y J K L B C D),oX bb7 (qO z p t u k l o) 106,oW S9 (z:qR) (qO z p t u k l o),oX e (qO v d f g k8 k9 c) 106,oW S7 (v:qR) (qO v d f g k8 k9 c),oX P (qO i T W X Q R S) 106,oW S5 (i:qR) (qO i T W X Q R S),oX A (qO r1 M N O H k3 I) 106,oW S3 (r1:qR) (qO r1 M N O H k3 I),oX y [oS U 0 0] 26,oX x [oS U 0 0] 26,xf w0 w F s p1 a]:=h;refine qi qa h Z Z Z fun _ _ h=>zs 0 h Z fun _ h=>X5 8 15 13 11 9 7 h Z (X3 3 5 3 0 h Z (kh qa [.tmp 34,.tmp 35,.tmp 36,.tmp 37,.tmp 38,.tmp 39,.tmp 40,.tmp 41] _ ([r1,i,v,z,Y,r6,r7,r8]:List qR) [0,2,3,5,7,9,11,13,15,17,18,19] h Z Z Z Z Z Z Z Z Z (fU (qS 16 h Z) (fU (qS 14 h Z) (fU (qS 12 h Z) (fU (qS 10 h Z) (fU (qS 8 h Z) (fU (qS 6 h Z) (fU (qS 4 h Z) (fU (qS 1 h Z) pe Z) Z) Z) Z) Z) Z) Z) Z) Z Z fun _ p31 _ h=>cq Z (zs 10 h Z fun _ h=>X1 4 10 h Z (zs 11 h Z fun _ h=>ac ?_))));have hk1:=h;obtain⟨_,h⟩:=h.gather [1,2,3,4,5,6,7,8,9,10,11,12] (WC (⟨([r1,i,v,z,Y,r6,r7,r8]:List qR)⟩:qB) h (qS 0 h Z) ) Z;obtain rfl:=qe hF;have h:=h.p [0,2,12] Z;exact bX qa [oV qB [oS p31 8 8]] ⟨⟨_,_,_,Z,Z,hk1.box 11 Z,Z⟩,G⟩ ⟨_,_,Z,Cv 1 1 h0 h Z Z⟩
def dH:Nat->Int->Option ByteArray|0,_=>U|n+1,a_n=>bif decide (a_n<0) then((dH n) (qj (0-a_n))).bind fun r1=>(UH (⟨#[45]⟩:ByteArray) r1).bind fun b=>V b else bif decide (a_n<10) then V (NX ([(⟨IntKind.wrap .u8 (qj (48+a_n))⟩:gW .u8)]:List (gW .u8))) else((dH n) (qj (a_n.tdiv 10))).bind fun a=>(UH a (NX ([(⟨IntKind.wrap .u8 (qj (48+(a_n.tmod 10)))⟩:gW .u8)]:List (gW .u8)))).bind fun c=>V c
theorem xG{n}:∀{w:World} {m:Int}  {r:ByteArray} (_:dH n m=V r),qP prog 245 [vi m] w r:=by
 induction n with
 |zero=>intro w m r F;rw[dH] at F;cases F
 |succ n ih=>
  intro w m r F;obtain⟨s,o⟩:∃s,s=dH n:=⟨_,Z⟩;rw[<-o] at ih;refine zV 26 func245 Z fun h=>?_;unfold dH at F;rw[<-o] at F;refine X0 10 Z (qp Z F ?_ ?_)<;>intro F
  .refine X0 4 Z (qdB h F ih Z fun _ _ h F=>?_);obtain⟨_,c,F⟩:=qc F;obtain⟨f,c⟩:=wk c;refine dK (QZ f Z Z) Z ?_;rw[c];refine X0 2 Z ?_;obtain rfl:=qe F;exact aq qa (ρ:=ByteArray) [_] h ⟨Z,G⟩ (TI _ _)
  .refine X0 7 Z (qp Z F ?_ ?_)<;>intro F
   .refine X0 5 Z (qv qa [.tmp 13] _ ([(⟨IntKind.wrap .u8 (qj (48+m))⟩:gW .u8)]:List (gW .u8)) h z9 ⟨Z,G⟩ Z fun _ _ _ h=>dK (MD qa (h.sl 0 Z).1 (h.sl 0 Z).2 Z ⟨Z,Z⟩ ⟨Z,Z⟩ Z Z) Z (X0 2 Z ?_));obtain rfl:=qe F;exact aq qa (ρ:=ByteArray) [_] h ⟨Z,G⟩ (TI _ _)
   .refine E1 ?_;obtain⟨d,b,F⟩:=qc F;obtain⟨l,a,F⟩:=qc F;refine bd (fun e w'=>e=[(2,.string l)]/\SH w w' []) ?_ ?_
    .refine rA [] [] h Z fun _ h=>M0 123 [0,1,3,4,5,6] (h.p [] Z) Z (At 2 7 127 251 Z ?_ ?_)
     .refine MB d h (cB 245 Z) (ih b) Z Z Z Z fun _ h=>Ag (h.p [] Z) (Ao 7 255 Z (qv qa [.tmp 22] _ ([(⟨IntKind.wrap .u8 (qj (48+(m.tmod 10)))⟩:gW .u8)]:List (gW .u8)) h z9 ⟨Z,G⟩ Z fun _ _ _ h=>Ag (h.p [] Z) (Ao 8 511 Z (dK (MD qa (h.sl 0 Z).1 (h.sl 0 Z).2 Z ⟨Z,Z⟩ ⟨Z,Z⟩ Z Z) Z (Ag (h.p [] Z) ?_)))));obtain⟨g,a⟩:=wk a;refine Aw 9 1023 (fun w' p=>QZ g Z Z) (h.p [] Z) Z ?_;rw[a];refine M0 2047 [10] (h.p [] Z) Z (Ad ?_);exact rG ⟨Z,h.p [] Z⟩ Z
     .refine qv qa [.tmp 22] _ ([(⟨IntKind.wrap .u8 (qj (48+(m.tmod 10)))⟩:gW .u8)]:List (gW .u8)) h z9 ⟨Z,G⟩ Z fun _ _ _ h=>Ag (h.p [] Z) (At 2 8 255 507 Z ?_ ?_)
      .refine MB d h (cB 245 Z) (ih b) Z Z Z Z fun _ h=>Ag (h.p [] Z) (Ao 8 511 Z (dK (MD qa (h.sl 0 Z).1 (h.sl 0 Z).2 Z ⟨Z,Z⟩ ⟨Z,Z⟩ Z Z) Z (Ag (h.p [] Z) ?_)));obtain⟨i,a⟩:=wk a;refine Aw 9 1023 (fun w' p=>QZ i Z Z) (h.p [] Z) Z ?_;rw[a];refine M0 2047 [10] (h.p [] Z) Z (Ad ?_);exact rG ⟨Z,h.p [] Z⟩ Z
      .refine dK (MD qa (h.sl 0 Z).1 (h.sl 0 Z).2 Z ⟨Z,Z⟩ ⟨Z,Z⟩ Z Z) Z (Ag (h.p [] Z) (Ao 2 511 Z (MB d h (cB 245 Z) (ih b) Z Z Z Z fun _ h=>Ag (h.p [] Z) ?_)));obtain⟨k,a⟩:=wk a;refine Aw 9 1023 (fun w' p=>QZ k Z Z) (h.p [] Z) Z ?_;rw[a];refine M0 2047 [10] (h.p [] Z) Z (Ad ?_);exact rG ⟨Z,h.p [] Z⟩ Z
    .rintro _ _ ⟨rfl,h⟩;obtain rfl:=qe F;exact aq qa (ρ:=ByteArray) [_] h ⟨Z,G⟩ (TI _ _)
def kB(Ce:qb)(g:List ByteArray)(h:Int):Nat->(List Int)->Int->Int->Int->Option ((List Int)×Int×Int×Int)|0,_,_,_,_=>U|n+1,p,b,c,a=>(qF ([2,2,3,3,4,3,3,3]:List Int) h).bind fun v=>bif decide (a<(qj (v-1))) then(qt n (⟨Ce.code,b,c⟩:qb) (qj ((g.length:Int)-1))).bind fun(i,k,l)=>(qt n (⟨Ce.code,k,l⟩:qb) 3).bind fun(i16,d,f)=>(bif (i16==0) then V (qj ((g.length:Int)-1)) else V (qj (1+i))).bind fun m=>(bif decide (h>=5) then V (a==1) else V Cd).bind fun b3=>bif b3 then(dj ([]:List Int) p).bind fun r=>(dj r ([0]:List Int)).bind fun s=>kB Ce g h n s d f (qj (a+1)) else(dj ([]:List Int) p).bind fun t=>(dj t ([m]:List Int)).bind fun u=>kB Ce g h n u d f (qj (a+1)) else V (p,b,c,a)
def kC(Ce:qb)(Cg:Bool)(s:List ByteArray)(t:List qL):Nat->(List qL)->Int->Int->Int->Option ((List qL)×Int×Int×Int)|0,_,_,_,_=>U|n+1,b,f,g,a=>bif decide (a<(t.length:Int)) then((qt n (⟨Ce.code,f,g⟩:qb) 4).bind fun(r,c,d)=>bif (r==0) then(qF b a).bind fun v=>bif (v.Bv==5) then V (c,d,An) else(qF b a).bind fun x=>bif (x.Bv==6) then V (c,d,An) else V (c,d,Cg) else V (c,d,Cd)).bind fun(h,i,u)=>bif u then(qF b a).bind fun k=>(qt n (⟨Ce.code,h,i⟩:qb) (qj ((s.length:Int)-1))).bind fun(l,m,p)=>(qF k.Am 0).bind fun _=>kC Ce Cg s t n (ak b a (⟨k.Bh,k.Bv,(ak k.Am 0 (qj (1+l)))⟩:qL)) m p (qj (a+1)) else kC Ce Cg s t n b h i (qj (a+1)) else V (b,f,g,a)
def mq(Ce:qb):Nat->(List ByteArray)->(List qL)->Int->Int->Int->Option ((List ByteArray)×(List qL)×Int×Int×Int)|0,_,_,_,_,_=>U|n+1,a,i,k,l,d=>bif decide (d > 0) then(qt n (⟨Ce.code,k,l⟩:qb) 12).bind fun(p,i8,r)=>(qF ([0,1,2,2,3,4,5,5,5,6,7,1]:List Int) p).bind fun m=>(dH n (i.length:Int)).bind fun r1=>(UH (⟨#[117]⟩:ByteArray) r1).bind fun v=>(kB Ce a m n ([]:List Int) i8 r 0).bind fun(t,b,c,_)=>(dj ([]:List Int) t).bind fun u=>(dj u ([(a.length:Int)]:List Int)).bind fun f=>(dH n (a.length:Int)).bind fun s=>(UH (⟨#[110]⟩:ByteArray) s).bind fun x=>(dj a ([x]:List ByteArray)).bind fun g=>(dj i ([(⟨v,m,f⟩:qL)]:List qL)).bind fun h=>mq Ce n g h b c (qj (d-1)) else V (a,i,k,l,d)
def we(n:Nat)(Ce:qb)(Cf:Int)(Cg:Bool):Option (qk×Int×Int):=(dj ([]:List ByteArray) ([(⟨#[110,99,107]⟩:ByteArray),(⟨#[110,97]⟩:ByteArray),(⟨#[110,98]⟩:ByteArray)]:List ByteArray)).bind fun x1=>(qt n (⟨Ce.code,Ce.at_,Ce.seed⟩:qb) (qj (Cf-1))).bind fun(s,t,u)=>(mq Ce n x1 ([]:List qL) t u (qj (2+s))).bind fun(d,r,v,x,_)=>(kC Ce Cg d r n r v x 0).bind fun(b,f,g,_)=>(dj ([]:List bk) ([(⟨(⟨#[99,107]⟩:ByteArray),1,0⟩:bk),(⟨(⟨#[97]⟩:ByteArray),1,1⟩:bk),(⟨(⟨#[98]⟩:ByteArray),1,2⟩:bk)]:List bk)).bind fun m=>(dj m ([(⟨(⟨#[121]⟩:ByteArray),2,qj ((d.length:Int)-1)⟩:bk)]:List bk)).bind fun c=>(qt n (⟨Ce.code,f,g⟩:qb) 2).bind fun(h,i32,a)=>bif (h==0) then(qt n (⟨Ce.code,i32,a⟩:qb) (qj ((d.length:Int)-1))).bind fun(i,k,l)=>(dj c ([(⟨(⟨#[122]⟩:ByteArray),2,qj (1+i)⟩:bk)]:List bk)).bind fun p=>V ((⟨b,d,p⟩:qk),k,l) else V ((⟨b,d,c⟩:qk),i32,a)
theorem IS{n p w F}{Ce:qb}{a p1 g Cf Cg}(h0:SH p w (xb a Ce p1 g Ce.at_ Ce.seed::F))(ha1:qm.R w (Fr p F) Ce (ao Ce p1 g)){r:qk×Int×Int}(hF:we n Ce Cf Cg=V r):wX prog 205 [vp a,vi Cf,.bool Cg] w (fun us w'=>∃S1 cs1,us=[oV qk cs1]/\SH p w' (oW S1 (r.1:qk) cs1::xb a Ce p1 g r.2.1 r.2.2::F)):=by
 have h:=Da h0 ha1;refine cp func205 Z (m:=174) Z Z (dE (qi qa h Z Z Z fun _ c h=>OF (qv qa [.const (.string UF),.const (.string qbH),.const (.string qbI)] _ ([UF,qbH,qbI]:List ByteArray) h z9 ⟨Z,Z,Z,G⟩ Z fun _ v S2 h=>dK (qC qa [1] [.tmp 18] z8) Z (qi qa h Z Z Z fun _ d h=>zs 0 h Z fun _ h=>OF (dK (qC qa [0,1] [.const (.string AD),.const (vi (1))] z8) Z (dK (qC qa [0,1,2] [.const (.string KQ),.const (vi (1)),.const (vi (1))] z8) Z (dK (qC qa [0,1,2] [.const (.string KR),.const (vi (1)),.const (vi (2))] z8) Z (qv qa [.tmp 20,.tmp 21,.tmp 22] _ ([(⟨AD,1,0⟩:bk),(⟨KQ,1,1⟩:bk),(⟨KR,1,2⟩:bk)]:List bk) h z9 ⟨(uE (⟨AD,1,0⟩:bk)),(uE (⟨KQ,1,1⟩:bk)),(uE (⟨KR,1,2⟩:bk)),G⟩ Z fun _ x S3 h=>cq Z (zs 1 h Z fun _ h=>OF (qv qa [.const (vi (2)),.const (vi (2)),.const (vi (3)),.const (vi (3)),.const (vi (4)),.const (vi (3)),.const (vi (3)),.const (vi (3))] _ ([2,2,3,3,4,3,3,3]:List Int) h z9 ⟨Z,Z,Z,Z,Z,Z,Z,Z,G⟩ Z fun _ P S4 h=>X0 4 Z (kh qa [] _ ([]:List qL) [0,1,2,3,4,5,6] h Z Z Z Z Z Z Z Z Z pe Z Z fun _ _ _ h=>X0 4 Z (qv qa [] _ ([]:List ByteArray) h z9 trivial Z fun _ _ _ h=>X1 2 4 h Z ?_))))))))))));obtain⟨_,T,hF⟩:=qc hF;obtain⟨g1,T⟩:=qH T;refine bo qa 0 h Z (h.sl 5 Z).1 (h.sl 5 Z).2 z9 g1 T Z fun _ _ _ _ h=>X0 8 Z ?_;have h:=h.p [7,0,1,2,3,4,5,6,8] Z;obtain⟨⟨_,_,_⟩,hr1,hF⟩:=qc hF;refine lZ h (h.frG 8 0 1 Z Z Z) hr1 Z Z Z fun _ h=>X0 3 Z ?_;obtain⟨o2,hF,hK1⟩:=qc hF;refine qr (rL (fun m e w'=>∃R l ln1 k3 b S9 o ln2 i f i4 i5 i6,mq Ce m b f i4 i5 i6=V o2/\e=[(0,vp a),(2,.bool Cg),(6,vp c),(7,vp d),(8,oS P 8 8),(9,oS o ln2 i),(10,oS l ln1 k3),(11,vi i6)]/\SH p w' [xb a Ce p1 g i4 i5,oW R (b:List ByteArray) [oS l ln1 k3],oW S9 (f:List qL) [oS o ln2 i],oW S4 (([2,2,3,3,4,3,3,3]:List Int):List Int) [oS P 8 8],oW S3 (([(⟨AD,1,0⟩:bk),(⟨KQ,1,1⟩:bk),(⟨KR,1,2⟩:bk)]:List bk):List bk) [oS x 3 3],oX d [oS U 0 0,oS v 3 3,oS x 3 3] 31,oW S2 (([UF,qbH,qbI]:List ByteArray):List ByteArray) [oS v 3 3],oX c RF 31,xf p w F Ce p1 g]) n ⟨_,_,_,_,_,_,_,_,_,_,_,_,_,hF,Z,h⟩ Z ?_);rintro m1 _ _ ⟨R,l,ln1,k3,b,S9,o,ln2,i,f,i4,i5,i6,hF,rfl,h⟩;obtain rfl:=(h.sl 1 Z).2;obtain rfl:=(h.sl 2 Z).2;rcases m1 with _|m1
 .cases hF
 refine X0 6 Z (qp Z hF ?_ ?_)<;>intro hF
 .refine lN (qv qa [.const (vi (0)),.const (vi (1)),.const (vi (2)),.const (vi (2)),.const (vi (3)),.const (vi (4)),.const (vi (5)),.const (vi (5)),.const (vi (5)),.const (vi (6)),.const (vi (7)),.const (vi (1))] _ ([0,1,2,2,3,4,5,5,5,6,7,1]:List Int) h z9 ⟨Z,Z,Z,Z,Z,Z,Z,Z,Z,Z,Z,Z,G⟩ Z fun _ _ _ h=>cq Z ?_);have h:=h.p [1,0,2,3,4,5,6,7,8,9] Z;obtain⟨⟨_,_,_⟩,hr2,hF⟩:=qc hF;refine lZ h (h.frG 9 0 1 Z Z Z) hr2 Z Z Z fun _ h=>?_;obtain⟨M,_,hF,he1,_,_,_,_,hp1,hq1,rfl,hc2⟩:=(h.sl 1 Z).1.ix hF;refine zx hp1 hq1 ⟨he1.1,qD he1.2.1 (h.sl 1 Z).2⟩ Z (zc 0 hc2 Z (X0 6 Z (qdB h hF xG Z fun _ _ h hF=>?_)));obtain⟨z1,W,hF⟩:=qc hF;obtain⟨g2,W⟩:=wk W;refine dK (QZ g2 Z Z) Z ?_;rw[W];refine cq Z (dK (qC qa [0,1] [.tmp 48,.tmp 49] z8) Z (qi qa h Z Z Z fun _ s h=>zs 0 h Z fun _ h=>X0 6 Z ?_));have h:=h.nil (α:=Int);obtain⟨o4,hF,hK2⟩:=qc hF;refine qr ?_;have h:=h.p [0,1,2,4,5,6,7,8,9,10,11] Z;refine rL (fun m e w'=>∃J k ln3 k5 L a8 a9 D,kB Ce b M m L a8 a9 D=V o4/\e=[(0,vp a),(2,.bool Cg),(6,vp c),(7,vp d),(8,oS P 8 8),(9,oL o f i),(10,oL l b k3),(11,vi i6),(12,vi M),(13,vp s),(14,vi D)]/\SH p w' [oW J (L:List Int) [oS k ln3 k5],oX s [.string z1,vi M,oS k ln3 k5] 206,xb a Ce p1 g a8 a9,oW R (b:List ByteArray) [oL l b k3],oW S9 (f:List qL) [oL o f i],oW S4 (([2,2,3,3,4,3,3,3]:List Int):List Int) [oS P 8 8],oW S3 (([(⟨AD,1,0⟩:bk),(⟨KQ,1,1⟩:bk),(⟨KR,1,2⟩:bk)]:List bk):List bk) [oS x 3 3],oX d [oS U 0 0,oS v 3 3,oS x 3 3] 31,oW S2 (([UF,qbH,qbI]:List ByteArray):List ByteArray) [oS v 3 3],oX c RF 31,xf p w F Ce p1 g]) m1 ⟨_,_,_,_,_,_,_,_,hF,Z,h⟩ Z ?_;rintro m2 _ _ ⟨J,k,ln3,k5,L,a8,a9,D,hF,rfl,h⟩;obtain rfl:=(h.sl 0 Z).2;rcases m2 with _|m2
  .cases hF
  refine X0 6 Z ?_;obtain⟨_,_,hF,he2,_,_,_,_,hp2,hq2,rfl,hc3⟩:=(h.sl 5 Z).1.ix hF;refine zx hp2 hq2 ⟨he2.1,qD he2.2.1 (h.sl 5 Z).2⟩ Z (zc 0 hc3 Z (X0 3 Z (qp Z hF ?_ ?_)))<;>intro hF
  .refine X0 9 Z ?_;have h:=h.p [2,0,1,3,4,5,6,7,8,9,10] Z;obtain⟨⟨_,_,_⟩,hr6,hF⟩:=qc hF;refine lZ h (h.frG 10 0 1 Z Z Z) hr6 Z Z Z fun _ h=>X0 7 Z ?_;obtain⟨⟨_,i17,i18⟩,hr7,hF⟩:=qc hF;refine lZ h (h.frG 10 0 1 Z Z Z) hr7 Z Z Z fun _ h=>X0 2 Z ?_;obtain⟨KF2,hKF2,_,hF,hK4⟩:=bindE hF;refine bd (fun e w'=>∃H,KF2 H=V o4/\e=[(0,vp a),(2,.bool Cg),(6,vp c),(7,vp d),(8,oS P 8 8),(9,oL o f i),(10,oL l b k3),(11,vi i6),(12,vi M),(13,vp s),(14,vi D),(15,vi H)]/\SH p w' [xb a Ce p1 g i17 i18,oW J (L:List Int) [oL k L k5],oX s [.string z1,vi M,oL k L k5] 206,oW R (b:List ByteArray) [oL l b k3],oW S9 (f:List qL) [oL o f i],oW S4 (([2,2,3,3,4,3,3,3]:List Int):List Int) [oS P 8 8],oW S3 (([(⟨AD,1,0⟩:bk),(⟨KQ,1,1⟩:bk),(⟨KR,1,2⟩:bk)]:List bk):List bk) [oS x 3 3],oX d [oS U 0 0,oS v 3 3,oS x 3 3] 31,oW S2 (([UF,qbH,qbI]:List ByteArray):List ByteArray) [oS v 3 3],oX c RF 31,xf p w F Ce p1 g]) ?_ ?_
   .refine qp Z hF ?_ ?_<;>intro hF
    .refine X0 6 Z ?_;exact rH hF hK4 h Z
    refine ez ?_;exact rH hF hK4 h Z
   rintro _ _ ⟨H,hF,rfl,h⟩;subst hKF2;refine qc3 ?_;obtain⟨KF1,hKF1,_,hF,hK3⟩:=bindE hF;refine bd (fun e w'=>∃b3,KF1 b3=V o4/\e=[(0,vp a),(2,.bool Cg),(6,vp c),(7,vp d),(8,oS P 8 8),(9,oL o f i),(10,oL l b k3),(11,vi i6),(12,vi M),(13,vp s),(14,vi D),(15,vi H),(77,.bool b3)]/\SH p w' [xb a Ce p1 g i17 i18,oW J (L:List Int) [oL k L k5],oX s [.string z1,vi M,oL k L k5] 206,oW R (b:List ByteArray) [oL l b k3],oW S9 (f:List qL) [oL o f i],oW S4 (([2,2,3,3,4,3,3,3]:List Int):List Int) [oS P 8 8],oW S3 (([(⟨AD,1,0⟩:bk),(⟨KQ,1,1⟩:bk),(⟨KR,1,2⟩:bk)]:List bk):List bk) [oS x 3 3],oX d [oS U 0 0,oS v 3 3,oS x 3 3] 31,oW S2 (([UF,qbH,qbI]:List ByteArray):List ByteArray) [oS v 3 3],oX c RF 31,xf p w F Ce p1 g]) ?_ ?_
   .refine X0 4 Z (qh (t:=74) hF Z ?_ ?_)<;>intro hF
    .refine X0 6 Z ?_;exact rH hF hK3 h Z
    refine X0 4 Z ?_;exact rH hF hK3 h Z
   rintro _ _ ⟨b3,hF,rfl,h⟩;subst hKF1;refine qp Z hF ?_ ?_<;>intro hF
   .refine X0 4 Z (qv qa [] _ ([]:List Int) h z9 trivial Z fun _ _ _ h=>X1 2 3 h Z ?_);obtain⟨_,X,hF⟩:=qc hF;obtain⟨g3,X⟩:=qH X;refine bo qa 0 h Z (h.sl 2 Z).1 (h.sl 2 Z).2 z9 g3 X Z fun _ _ _ _ h=>cq Z (qv qa [.tmp 82] _ ([0]:List Int) h z9 ⟨Z,G⟩ Z fun _ _ _ h=>?_);obtain⟨_,Y,hF⟩:=qc hF;obtain⟨g4,Y⟩:=qH Y;refine bo qa 1 h Z (h.sl 0 Z).1 (h.sl 0 Z).2 z9 g4 Y Z fun _ _ _ _ h=>cq Z (zs 4 h Z fun _ h=>X0 7 Z ?_);exact rK ⟨_,_,_,_,_,_,_,_,hF,Z,h.p [1,4,2,5,6,7,8,9,10,11,12] Z⟩ Z
   refine X0 2 Z (qv qa [] _ ([]:List Int) h z9 trivial Z fun _ _ _ h=>X1 2 3 h Z ?_);obtain⟨_,a3,hF⟩:=qc hF;obtain⟨g5,a3⟩:=qH a3;refine bo qa 0 h Z (h.sl 2 Z).1 (h.sl 2 Z).2 z9 g5 a3 Z fun _ _ _ _ h=>cq Z (qv qa [.tmp 82] _ ([H]:List Int) h z9 ⟨Z,G⟩ Z fun _ _ _ h=>?_);obtain⟨_,a4,hF⟩:=qc hF;obtain⟨g6,a4⟩:=qH a4;refine bo qa 1 h Z (h.sl 0 Z).1 (h.sl 0 Z).2 z9 g6 a4 Z fun _ _ _ _ h=>cq Z (zs 4 h Z fun _ h=>X0 7 Z ?_);exact rK ⟨_,_,_,_,_,_,_,_,hF,Z,h.p [1,4,2,5,6,7,8,9,10,11,12] Z⟩ Z
  refine qx Z ?_;cases qe hF;replace hF:=hK2;refine dE (qv qa [] _ ([]:List Int) h z9 trivial Z fun _ _ _ h=>X1 2 2 h Z ?_);obtain⟨_,a5,hF⟩:=qc hF;obtain⟨g7,a5⟩:=qH a5;refine bo qa 0 h Z (h.sl 1 Z).1 (h.sl 1 Z).2 z9 g7 a5 Z fun _ _ _ _ h=>lY Z (qv qa [.tmp 91] _ ([(b.length:Int)]:List Int) h z9 ⟨Z,G⟩ Z fun _ _ _ h=>?_);obtain⟨x10,a6,hF⟩:=qc hF;obtain⟨g8,a6⟩:=qH a6;refine bo qa 1 h Z (h.sl 0 Z).1 (h.sl 0 Z).2 z9 g8 a6 Z fun _ _ _ _ h=>cq Z (zs 3 h Z fun _ h=>X0 6 Z (qdB h hF xG Z fun _ _ h hF=>?_));obtain⟨z2,a7,hF⟩:=qc hF;obtain⟨g9,a7⟩:=wk a7;refine dK (QZ g9 Z Z) Z ?_;rw[a7];refine qv qa [.tmp 99] _ ([z2]:List ByteArray) h z9 ⟨Z,G⟩ Z fun _ _ _ h=>?_;obtain⟨_,y,hF⟩:=qc hF;obtain⟨g10,y⟩:=qH y;refine bo qa 6 h Z (h.sl 0 Z).1 (h.sl 0 Z).2 z9 g10 y Z fun _ _ _ _ h=>X1 5 4 h Z (kh qa [.tmp 103] _ ([(⟨z1,M,x10⟩:qL)]:List qL) [0,1,3,4,5,6,7,8,9,10,11,12,13] h Z Z Z Z Z Z Z Z Z (fU (GM (⟨z1,M,x10⟩:qL) h vk vk (qS 2 h Z) (by rfl) (by rfl)) pe Z) Z Z fun _ _ _ h=>?_);obtain⟨_,z,hF⟩:=qc hF;obtain⟨g11,z⟩:=qH z;have h:=h.p [0,7,1,2,3,4,5,6,8,9,10,11,12,13] Z;refine zA qa h Z Z Z Z Z Z Z Z Z g11 z Z fun _ _ _ _ h=>X0 8 Z ?_;exact rK ⟨_,_,_,_,_,_,_,_,_,_,_,_,_,hF,Z,h.p [5,6,0,7,8,9,10,11,12] Z⟩ Z
 refine qx Z ?_;cases qe hF;replace hF:=hK1;refine X0 5 Z ?_;obtain⟨o9,hF,hK5⟩:=qc hF;refine qr ?_;have h:=h.p [0,1,2,4,5,6,7,8] Z;refine rL (fun m e w'=>∃Q u b5 b6 I,kC Ce Cg b f m u b5 b6 I=V o9/\e=[(0,vp a),(2,.bool Cg),(6,vp c),(7,vp d),(9,oL o f i),(10,oL l b k3),(16,vi I)]/\SH p w' [xb a Ce p1 g b5 b6,oW R (b:List ByteArray) [oL l b k3],oW Q (u:List qL) [oL o f i],oW S3 (([(⟨AD,1,0⟩:bk),(⟨KQ,1,1⟩:bk),(⟨KR,1,2⟩:bk)]:List bk):List bk) [oS x 3 3],oX d [oS U 0 0,oS v 3 3,oS x 3 3] 31,oW S2 (([UF,qbH,qbI]:List ByteArray):List ByteArray) [oS v 3 3],oX c RF 31,xf p w F Ce p1 g]) n ⟨_,_,_,_,_,hF,Z,h⟩ Z ?_;rintro m3 _ _ ⟨Q,u,b5,b6,I,hF,rfl,h⟩;rcases m3 with _|m3
 .cases hF
 refine X0 8 Z (qp Z hF ?_ ?_)<;>intro hF
 .refine X0 4 Z ?_;obtain⟨KF3,hKF3,_,hF,K⟩:=bindE hF;refine bd (fun e w'=>∃b7 b8 b4,KF3 (b7,b8,b4)=V o9/\e=[(0,vp a),(2,.bool Cg),(6,vp c),(7,vp d),(9,oL o f i),(10,oL l b k3),(16,vi I),(133,.bool b4)]/\SH p w' [xb a Ce p1 g b7 b8,oW R (b:List ByteArray) [oL l b k3],oW Q (u:List qL) [oL o f i],oW S3 (([(⟨AD,1,0⟩:bk),(⟨KQ,1,1⟩:bk),(⟨KR,1,2⟩:bk)]:List bk):List bk) [oS x 3 3],oX d [oS U 0 0,oS v 3 3,oS x 3 3] 31,oW S2 (([UF,qbH,qbI]:List ByteArray):List ByteArray) [oS v 3 3],oX c RF 31,xf p w F Ce p1 g]) ?_ ?_
  .refine X0 2 Z ?_;obtain⟨⟨_,_,_⟩,hr11,hF⟩:=qc hF;refine lZ h (h.frG 7 0 1 Z Z Z) hr11 Z Z Z fun _ h=>lY Z (qh (t:=115) hF Z ?_ ?_)<;>intro hF
   .refine X0 5 Z ?_;obtain⟨_,hy5,hF⟩:=qc hF;have he5:=bH hy5;have h:=h.lrn0 2 Z;obtain⟨_,o_4,_,_,hp5,hq5,-,N,hc10⟩:=(kZ (h.lrnO 2 Z)).1.at hy5;have hr13:=N;obtain⟨_,_,rfl,_⟩:=bD N;have h:=h.lrnAdd 2 Z hr13;refine zx hp5 hq5 ⟨he5.1,qD he5.2.1 (kZ (h.lrnO 2 Z)).2⟩ Z (X0 3 Z (zc 1 hc10 Z (X0 4 Z (qh (t:=122) hF Z ?_ ?_))))<;>intro hF
    .refine X0 15 Z ?_;have h:=h.unlrn 2 Z;cases qe hF;exact rG ⟨_,_,_,K,Z,h⟩ Z
    refine X0 5 Z ?_;obtain⟨_,_,hF,he6,_,_,_,_,hp6,hq6,O,hc11⟩:=(kZ (h.lrnO 2 Z)).1.ix hF;have hr15:=O;obtain⟨_,_,rfl,_⟩:=bD O;have h:=h.lrnAdd 2 Z hr15;refine zx hp6 hq6 ⟨he6.1,qD he6.2.1 (kZ (h.lrnO 2 Z)).2⟩ Z (X0 3 Z (zc 1 hc11 Z (X0 6 Z (qh (t:=130) hF Z ?_ ?_))))<;>intro hF
    .refine X0 5 Z ?_;have h:=h.unlrn 2 Z;cases qe hF;exact rG ⟨_,_,_,K,Z,h⟩ Z
    refine X0 6 Z ?_;have h:=h.unlrn 2 Z;cases qe hF;exact rG ⟨_,_,_,K,Z,h⟩ Z
   refine X0 19 Z ?_;cases qe hF;exact rG ⟨_,_,_,K,Z,h⟩ Z
  rintro _ _ ⟨b7,b8,b4,hF,rfl,h⟩;subst hKF3;refine qp Z hF ?_ ?_<;>intro hF
  .obtain⟨y3,hy3,hF⟩:=qc hF;have he3:=bH hy3;have h:=h.p [2,0,1,3,4,5,6,7] Z;obtain⟨_,_,_,h⟩:=h.take hy3;obtain⟨_,_,rfl,-⟩:=bD (h.own 0 Z);obtain⟨_,h⟩:=LP h;refine rA [] [1] h Z fun _ h=>M0 3 [0,1] (h.p [1] Z) Z ?_;obtain⟨_,hp3,-,-,hl2⟩:=h.holeAt 1 Z;obtain⟨q3,hq3⟩:∃q,q=0+(I).toNat*qm.k qL:=⟨_,Z⟩;refine Ax 2 7 hp3 hq3 ⟨he3.1,qD he3.2.1 hl2⟩ (h.p [1] Z) Z (M0 15 [3] (h.p [1] Z) Z (Aw 4 31 (fun w' hw=>cR qa (sE hw 0 Z hp3 hq3) (j:=2) Z Z Z) (h.p [1] Z) Z ?_));refine M0 511 [5,6,7,8] (h.p [1] Z) Z (Ao 9 1023 Z ?_);have h:=h.p [2,0,1,3,4,5,6,7,8] Z;obtain⟨⟨i25,_,_⟩,hr9,hF⟩:=qc hF;refine lZ h (h.frG 8 0 1 Z Z Z) hr9 Z Z Z fun _ h=>G0 2047 [10] (h.p [2] Z) Z ?_;obtain⟨_,hy4,hF,he4,_,_,_,_,hp4,hq4,rfl,hc9⟩:=(h.sl 1 Z).1.ix hF;refine Ax 11 4095 hp4 hq4 ⟨he4.1,qD he4.2.1 (h.sl 1 Z).2⟩ (h.p [2] Z) Z (Ao 12 8191 Z (bK qa 1 0 (qj (1+i25)) h Z hy4 hp4 hq4 Z hc9 Z Z Z Z Z Z Z fun _ h=>Ag (h.p [2] Z) (Ad (X0 6 Z ?_))));obtain⟨_,h⟩:=h.gather [0,2,3,4,5,6,7,8] (GM (⟨y3.Bh,y3.Bv,(ak y3.Am 0 (qj (1+i25)))⟩:qL) h vk vk (qS 1 h Z) (by rfl) (by rfl)) Z;have h:=h.p [0,2,1,3,4,5,6,7,8] Z;have h:=h.put;obtain⟨_,h⟩:=FF (S:=_) h;exact rK ⟨_,_,_,_,_,hF,Z,h.p [1,2,0,3,4,5,6,7] Z⟩ Z
  exact X0 7 Z (rK ⟨_,_,_,_,_,hF,Z,h⟩ Z)
 refine qx Z ?_;cases qe hF;replace hF:=hK5;refine dE (qv qa [] _ ([]:List bk) h z9 trivial Z fun _ _ _ h=>X1 2 5 h Z ?_);obtain⟨_,A,hF⟩:=qc hF;obtain⟨g12,A⟩:=qH A;refine bo qa 0 h Z (h.sl 4 Z).1 (h.sl 4 Z).2 z9 g12 A Z fun _ _ _ _ h=>X0 8 Z (dK (qC qa [0,1,2] [.const (.string E9),.const (vi (2)),.tmp 153] z8) Z (qv qa [.tmp 154] _ ([(⟨E9,2,qj ((b.length:Int)-1)⟩:bk)]:List bk) h z9 ⟨(uE (⟨E9,2,qj ((b.length:Int)-1)⟩:bk)),G⟩ Z fun _ _ _ h=>?_));obtain⟨x15,B,hF⟩:=qc hF;obtain⟨g13,B⟩:=qH B;refine bo qa 1 h Z (h.sl 0 Z).1 (h.sl 0 Z).2 z9 g13 B Z fun _ p34 k18 _ h=>X0 6 Z ?_;have h:=h.p [2,0,1,3,4,5,6,7,8,9] Z;obtain⟨⟨_,_,_⟩,hr16,hF⟩:=qc hF;refine lZ h (h.frG 9 0 1 Z Z Z) hr16 Z Z Z fun _ h=>X0 2 Z (qp Z hF ?_ ?_)<;>intro hF
 .refine X0 6 Z ?_;obtain⟨⟨i34,_,_⟩,hr17,hF⟩:=qc hF;refine lZ h (h.frG 9 0 1 Z Z Z) hr17 Z Z Z fun _ h=>cq Z (dK (qC qa [0,1,2] [.const (.string qb9),.const (vi (2)),.tmp 166] z8) Z (qv qa [.tmp 167] _ ([(⟨qb9,2,qj (1+i34)⟩:bk)]:List bk) h z9 ⟨(uE (⟨qb9,2,qj (1+i34)⟩:bk)),G⟩ Z fun _ _ _ h=>?_));obtain⟨x16,C,hF⟩:=qc hF;obtain⟨g14,C⟩:=qH C;refine bo qa 3 h Z (h.sl 0 Z).1 (h.sl 0 Z).2 z9 g14 C Z fun _ p36 k19 _ h=>X0 7 Z (dK (qC qa [0,1,2] [.tmp 170,.tmp 171,.tmp 172] z8) Z (zs 9 h Z fun _ h=>ac ?_));have hk1:=h;obtain⟨_,h⟩:=h.gather [0,1,2,6,7,8,9,10] (NK (⟨u,b,x16⟩:qk) h (qS 5 h Z) (qS 4 h Z) (qS 3 h Z) (by rfl) (by rfl)) Z;obtain rfl:=qe hF;have h:=h.p [0,2,8] Z;exact bX qa [oV qk [oL o f i,oL l b k3,oL p36 x16 k19]] ⟨⟨_,_,_,Z,Z,hk1.box 9 Z,Z⟩,G⟩ ⟨_,_,Z,Cv 1 1 h0 h Z Z⟩
 refine X0 6 Z (dK (qC qa [0,1,2] [.tmp 170,.tmp 171,.tmp 172] z8) Z (zs 8 h Z fun _ h=>ac ?_));have hk2:=h;obtain⟨_,h⟩:=h.gather [0,1,5,6,7,8,9] (NK (⟨u,b,x15⟩:qk) h (qS 4 h Z) (qS 3 h Z) (qS 2 h Z) (by rfl) (by rfl)) Z;obtain rfl:=qe hF;have h:=h.p [0,1,7] Z;exact bX qa [oV qk [oL o f i,oL l b k3,oL p34 x15 k18]] ⟨⟨_,_,_,Z,Z,hk2.box 8 Z,Z⟩,G⟩ ⟨_,_,Z,Cv 1 1 h0 h Z Z⟩
def ua(_:Nat)(sinks:Int)(a:Int):Option aJ:=(xY sinks (0:Int)).bind fun x1=>V (⟨([(-1)]:List Int),([0]:List Int),([a]:List Int),x1⟩:aJ)
theorem GY{sinks load}  {r:aJ}(F:ua n sinks load=V r):qP prog 246 [vi sinks,vi load] w r:=by
 refine zV 12 func246 Z fun h=>dE (qi qa h Z Z Z fun _ _ h=>OF (qv qa [.const (vi (-1))] _ ([(-1)]:List Int) h z9 ⟨Z,G⟩ Z fun _ p1 _ h=>qv qa [.const (vi (0))] _ ([0]:List Int) h z9 ⟨Z,G⟩ Z fun _ d _ h=>cq Z (qv qa [.tmp 7] _ ([load]:List Int) h z9 ⟨Z,G⟩ Z fun _ f _ h=>cq Z ?_)));obtain⟨x1,a,F⟩:=qc F;obtain⟨b,c,a⟩:=aL a;refine bv qa Int h z9 b c a Z fun _ _ g h=>dK (qC qa [0,1,2,3] [.tmp 5,.tmp 6,.tmp 8,.tmp 10] z8) Z (zs 4 h Z fun _ h=>ac ?_);obtain rfl:=qe F;exact aq qa (ρ:=aJ) [oV aJ [oS p1 1 1,oS d 1 1,oS f 1 1,oS g x1.length x1.length]] h ⟨⟨_,_,_,Z,Z,h.box 4 Z,Z⟩,G⟩ (Cq h (pJ (yD (⟨([(-1)]:List Int),([0]:List Int),([load]:List Int),x1⟩:aJ) h (qS 3 h Z) (qS 2 h Z) (qS 1 h Z) (qS 0 h Z) (by rfl) (by rfl) (by rfl))))
def gH(s:qb)(r1:aJ)(i:List Int):Nat->(List Int)->Int->Int->Int->Option ((List Int)×Int×Int×Int)|0,_,_,_,_=>U|n+1,h,b,c,a=>bif decide (a<(r1.Bj.length:Int)) then(qt n (⟨s.code,b,c⟩:qb) (i.length:Int)).bind fun(d,f,g)=>(qF h a).bind fun _=>gH s r1 i n (ak h a d) f g (qj (a+1)) else V (h,b,c,a)
def gG(s:qb):Nat->(List Int)->(List Int)->(List Int)->Int->Int->Int->Option ((List Int)×(List Int)×(List Int)×Int×Int×Int)|0,_,_,_,_,_,_=>U|n+1,x1,p,l,m,i8,k=>bif decide (k > 0) then(kU n l).bind fun r=>(qt n (⟨s.code,m,i8⟩:qb) (l.length:Int)).bind fun(a,b,c)=>(dj r ([a]:List Int)).bind fun v=>(kU n p).bind fun t=>(qt n (⟨s.code,b,c⟩:qb) 400).bind fun(d,f,g)=>(dj t ([d]:List Int)).bind fun x=>(kU n x1).bind fun u=>(qt n (⟨s.code,f,g⟩:qb) 8).bind fun(i16,h,i)=>(dj u ([i16]:List Int)).bind fun y=>gG s n y x v h i (qj (k-1)) else V (x1,p,l,m,i8,k)
def rq(n:Nat)(s:qb)(sinks:Int):Option (aJ×Int×Int):=(qt n (⟨s.code,s.at_,s.seed⟩:qb) 6).bind fun(d,f,g)=>(ua n sinks d).bind fun r1=>(qt n (⟨s.code,f,g⟩:qb) 4).bind fun(h,i,k)=>(gG s n r1.Br r1.Bw r1.Ak i k h).bind fun(x1,m,c,l,i8,_)=>(gH s r1 c n r1.Bj l i8 0).bind fun(p,a,b,_)=>V ((⟨c,m,x1,p⟩:aJ),a,b)
theorem CH{n y w F}{s:qb}{a p1 t sinks}(h0:SH y w (xb a s p1 t s.at_ s.seed::F))(W:qm.R w (Fr y F) s (ao s p1 t)){r:aJ×Int×Int}(hF:rq n s sinks=V r):wX prog 206 [vp a,vi sinks] w (fun us w'=>∃S1 cs1,us=[oV aJ cs1]/\SH y w' (oW S1 (r.1:aJ) cs1::xb a s p1 t r.2.1 r.2.2::F)):=by
 have h:=Da h0 W;refine cp func206 Z (m:=64) Z Z (dE (qi qa h Z Z Z fun _ b h=>X0 5 Z ?_));have h:=h.p [1,0,2] Z;obtain⟨⟨_,_,_⟩,a3,hF⟩:=qc hF;refine lZ h (h.frG 2 0 1 Z Z Z) a3 Z Z Z fun _ h=>qbE h hF GY Z fun r1 _ _ _ h hF=>?_;obtain⟨_,_,_,_,_,_,N,M,rfl,-,-,-,-⟩:=dz (h.own 0 Z);refine qi qa h Z Z Z fun _ c h=>zs 0 h Z fun _ h=>X0 5 Z ?_;have h:=h.p [2,0,1,3,4] Z;obtain⟨⟨_,_,_⟩,a4,hF⟩:=qc hF;refine lZ h (h.frG 4 0 1 Z Z Z) a4 Z Z Z fun _ h=>X0 2 Z ?_;have h:=h.p [2,0,1,3,4] Z;obtain⟨_,_,_,S6,h⟩:=vr h;obtain⟨o3,hF,S⟩:=qc hF;refine qr (rL (fun m e w'=>∃P C u z x1 Q D v A f R H x B d i7 i8 i9,gG s m x1 f d i7 i8 i9=V o3/\e=[(0,vp a),(4,vp b),(5,vp c),(6,vi i9)]/\SH y w' [oW S6 (r1.Bj:List Int) [oL N r1.Bj M],oW P (x1:List Int) [oS C u z],oW Q (f:List Int) [oS D v A],oW R (d:List Int) [oS H x B],xb a s p1 t i7 i8,oX c [oS H x B,oS D v A,oS C u z,oL N r1.Bj M] 171,oX b qdY 171,xf y w F s p1 t]) n ⟨_,_,_,_,_,_,_,_,_,_,_,_,_,_,_,_,_,_,hF,Z,h⟩ Z ?_);rintro m1 _ _ ⟨P,C,u,z,x1,Q,D,v,A,f,R,H,x,B,d,i7,i8,i9,hF,rfl,h⟩;obtain rfl:=(h.sl 1 Z).2;obtain rfl:=(h.sl 2 Z).2;obtain rfl:=(h.sl 3 Z).2;rcases m1 with _|m1
 .cases hF
 refine X0 6 Z (qp Z hF ?_ ?_)<;>intro hF
 .refine X1 10 5 h Z (rA [25] [5] h Z fun _ h=>M4 12946203 [0,1,3,4,8,9,11,15,16,18,22,23] 0 0 0 0 (h.p [5] Z) Z (Ao 2 12946207 Z (uj h hF (mn (h.own 3 Z)) Z fun _ _ _ _ _ h hF=>Ag (h.p [6] Z) (Ao 5 12946239 Z ?_))));have h:=h.p [5,0,1,2,3,4,6,7,8] Z;obtain⟨⟨a9,_,_⟩,a5,hF⟩:=qc hF;refine lZ h (h.frG 8 0 1 Z Z Z) a5 Z Z Z fun _ h=>Ag (h.p [6] Z) (Ao 6 12946303 Z (qv qa [.tmp 27] _ ([a9]:List Int) h z9 ⟨Z,G⟩ Z fun _ _ _ h=>Ag (h.p [7] Z) (Ao 7 12946431 Z ?_)));obtain⟨_,g,hF⟩:=qc hF;obtain⟨g1,g⟩:=qH g;refine bo qa 2 h Z (h.sl 0 Z).1 (h.sl 0 Z).2 z9 g1 g Z fun _ _ _ _ h=>Ag (h.p [7] Z) (Ao 10 12947455 Z (uj h hF (mn (h.own 5 Z)) Z fun _ _ _ _ _ h hF=>Ag (h.p [8] Z) (Ao 12 12951551 Z ?_)));have h:=h.p [2,0,1,3,4,5,6,7,8,9,10] Z;obtain⟨⟨b4,_,_⟩,a6,hF⟩:=qc hF;refine lZ h (h.frG 10 0 1 Z Z Z) a6 Z Z Z fun _ h=>Ag (h.p [8] Z) (Ao 13 12959743 Z (qv qa [.tmp 34] _ ([b4]:List Int) h z9 ⟨Z,G⟩ Z fun _ _ _ h=>Ag (h.p [9] Z) (Ao 14 12976127 Z ?_)));obtain⟨_,i,hF⟩:=qc hF;obtain⟨g2,i⟩:=qH i;refine bo qa 2 h Z (h.sl 0 Z).1 (h.sl 0 Z).2 z9 g2 i Z fun _ _ _ _ h=>Ag (h.p [9] Z) (Ao 17 13107199 Z (uj h hF (mn (h.own 6 Z)) Z fun _ _ _ _ _ h hF=>Ag (h.p [10] Z) (Ao 19 13631487 Z ?_)));have h:=h.p [2,0,1,3,4,5,6,7,8,9,10,11,12] Z;obtain⟨⟨i16,_,_⟩,a7,hF⟩:=qc hF;refine lZ h (h.frG 12 0 1 Z Z Z) a7 Z Z Z fun _ h=>Ag (h.p [10] Z) (Ao 20 14680063 Z (qv qa [.tmp 41] _ ([i16]:List Int) h z9 ⟨Z,G⟩ Z fun _ _ _ h=>Ag (h.p [11] Z) (Ao 21 16777215 Z ?_)));obtain⟨_,k,hF⟩:=qc hF;obtain⟨g3,k⟩:=qH k;refine bo qa 2 h Z (h.sl 0 Z).1 (h.sl 0 Z).2 z9 g3 k Z fun _ _ _ _ h=>Ag (h.p [11] Z) (Aw 24 33554431 (fun w' hw=>qC qa [0,1,2,3] [.tmp 29,.tmp 36,.tmp 43,.tmp 45] z8) (h.p [11] Z) Z ?_);refine Ao 25 67108863 Z (zs 11 h Z fun _ h=>bL (fun hs=>absurd (hs 25 (by decide)) (by decide)) (Ad (X0 6 Z ?_)));exact rK ⟨_,_,_,_,_,_,_,_,_,_,_,_,_,_,_,_,_,_,hF,Z,h.p [7,2,4,6,1,11,12,13] Z⟩ Z
 refine qx Z ?_;cases qe hF;replace hF:=S;refine X0 5 Z ?_;obtain⟨o7,hF,T⟩:=qc hF;refine qr (rL (fun m e w'=>∃O l o p,gH s r1 d m O l o p=V o7/\e=[(0,vp a),(4,vp b),(5,vp c),(8,vi p)]/\SH y w' [oW S6 (O:List Int) [oL N r1.Bj M],oW P (x1:List Int) [oL C x1 z],oW Q (f:List Int) [oL D f A],oW R (d:List Int) [oL H d B],xb a s p1 t l o,oX c [oL H d B,oL D f A,oL C x1 z,oL N r1.Bj M] 171,oX b qdY 171,xf y w F s p1 t]) n ⟨_,_,_,_,hF,Z,h⟩ Z ?_);rintro m2 _ _ ⟨O,l,o,p,hF,rfl,h⟩;rcases m2 with _|m2
 .cases hF
 refine X1 9 5 h Z (qp Z hF ?_ ?_)<;>intro hF
 .refine TN (rA [] [5] h Z fun _ h=>M2 127 [0,1,2,3,4,5,6] 0 0 (h.p [5] Z) Z (Ao 7 255 Z ?_));have h:=h.p [4,0,1,2,3,5,6,7] Z;obtain⟨⟨b5,_,_⟩,L,hF⟩:=qc hF;refine lZ h (h.frG 7 0 1 Z Z Z) L Z Z Z fun _ h=>Ag (h.p [5] Z) ?_;obtain⟨_,a8,hF,I,_,_,_,_,J,K,rfl,X⟩:=(h.sl 1 Z).1.ix hF;refine Ax 8 511 J K ⟨I.1,qD I.2.1 (h.sl 1 Z).2⟩ (h.p [5] Z) Z (Ao 9 1023 Z (bK qa 1 0 b5 h Z a8 J K Z X Z Z Z Z Z Z Z fun _ h=>Ag (h.p [5] Z) (Ad (X0 6 Z ?_))));exact rK ⟨_,_,_,_,hF,Z,h.p [1,2,3,4,0,5,6,7] Z⟩ Z
 refine qx Z ?_;cases qe hF;replace hF:=T;refine X1 3 5 h Z (zs 6 h Z fun _ h=>ac ?_);have Y:=h;obtain⟨_,h⟩:=h.gather [4,5,6,7] (yD (⟨d,f,x1,O⟩:aJ) h (qS 3 h Z) (qS 2 h Z) (qS 1 h Z) (qS 0 h Z) (by rfl) (by rfl) (by rfl)) Z;obtain rfl:=qe hF;have h:=h.p [0,1,4] Z;exact bX qa [oV aJ [oL H d B,oL D f A,oL C x1 z,oL N r1.Bj M]] ⟨⟨_,_,_,Z,Z,Y.box 6 Z,Z⟩,G⟩ ⟨_,_,Z,Cv 1 1 h0 h Z Z⟩

def mr(s:qb)(b:qk):Nat->(List aJ)->Int->Int->Int->Option ((List aJ)×Int×Int×Int)|0,_,_,_,_=>U|n+1,x1,c,d,a=>bif decide (a<(b.Am.length:Int)) then(mV n b a).bind fun g=>(rq n (⟨s.code,c,d⟩:qb) (g.length:Int)).bind fun(h,i8,f)=>(dj x1 ([h]:List aJ)).bind fun i=>mr s b n i i8 f (qj (a+1)) else V (x1,c,d,a)
def kV(n:Nat)(s:qb)(most:Int)(wild:Bool):Option (qf×Int×Int):=(wa n (⟨s.code,s.at_,s.seed⟩:qb)).bind fun(r1,b,c)=>(we n (⟨s.code,b,c⟩:qb) most wild).bind fun(a,d,f)=>(mr s a n ([]:List aJ) d f 0).bind fun(x1,g,h,_)=>V ((⟨r1,a,x1⟩:qf),g,h)
theorem lu{n k w F}{s:qb}{a p1 b most wild}(h0:SH k w (xb a s p1 b s.at_ s.seed::F))(L:qm.R w (Fr k F) s (ao s p1 b)){r:qf×Int×Int}(hF:kV n s most wild=V r):wX prog 149 [vp a,vi most,.bool wild] w (fun us w'=>∃S1 cs1,us=[oV qf cs1]/\SH k w' (oW S1 (r.1:qf) cs1::xb a s p1 b r.2.1 r.2.2::F)):=by
 have h:=Da h0 L;refine cp func149 Z (m:=38) Z Z (dE (qi qa h Z Z Z fun _ d h=>X0 4 Z ?_));have h:=h.p [1,0,2] Z;obtain⟨⟨r1,B,C⟩,N,hF⟩:=qc hF;refine bA (cB 204 Z) (IP (s:=s) h (show qm.R _ _ (s:qb) _ from⟨[oL p1 s.code b],[vi s.at_,vi s.seed],Z,⟨_,_,Z,(qE (h.frG 2 0 1 Z Z Z)).1⟩,⟨[vi s.at_],[vi s.seed],Z,Z,Z⟩⟩) N) Z Z Z Z ?_;rintro _ _ ⟨S2,_,rfl,h⟩;obtain⟨i,g,rfl,-⟩:=gi (h.own 0 Z);replace h:SH _ _ [oW S2 (r1:qB) [oL i r1.Au g],xb a s p1 b B C,oX d RG 34,xf k w F s p1 b]:=h;refine qi qa h Z Z Z fun _ f h=>zs 0 h Z fun _ h=>X0 6 Z ?_;have h:=h.p [2,0,1,3,4] Z;obtain⟨⟨c,i3,i4⟩,O,hF⟩:=qc hF;refine bA (cB 205 Z) (IS (Ce:=(⟨s.code,B,C⟩:qb)) (Cf:=most) (Cg:=wild) h (show qm.R _ _ ((⟨s.code,B,C⟩:qb):qb) _ from⟨[oL p1 s.code b],[vi B,vi C],Z,⟨_,_,Z,(qE (h.frG 4 0 1 Z Z Z)).1⟩,⟨[vi B],[vi C],Z,Z,Z⟩⟩) O) Z Z Z Z ?_;rintro _ _ ⟨I,_,rfl,h⟩;obtain⟨y,k3,z,v,A,x,rfl,-,-,-⟩:=ce (h.own 0 Z);replace h:SH _ _ [oW I (c:qk) (ba c y z A k3 v x),xb a s p1 b i3 i4,oX f [oL i r1.Au g] 26,oW S2 (r1:qB) [oL i r1.Au g],oX d RG 34,xf k w F s p1 b]:=h;refine qi qa h Z Z Z fun _ l h=>zs 0 h Z fun _ h=>OF (kh qa [] _ ([]:List aJ) [0,1,2,3,4,5,6] h Z Z Z Z Z Z Z Z Z pe Z Z fun _ _ _ h=>X0 7 Z ?_);obtain⟨o3,hF,K⟩:=qc hF;refine qr (rL (fun m e w'=>∃J H u D x1 p t Q,mr s c m x1 p t Q=V o3/\e=[(0,vp a),(6,vp d),(7,vp f),(8,vp l),(9,oS H u D),(10,vi Q)]/\SH k w' [oW J (x1:List aJ) [oS H u D],oX l (ba c y z A k3 v x) 31,oW I (c:qk) (ba c y z A k3 v x),xb a s p1 b p t,oX f [oL i r1.Au g] 26,oW S2 (r1:qB) [oL i r1.Au g],oX d RG 34,xf k w F s p1 b]) n ⟨_,_,_,_,_,_,_,_,hF,Z,h⟩ Z ?_);rintro m1 _ _ ⟨J,H,u,D,x1,p,t,Q,hF,rfl,h⟩;obtain rfl:=(h.sl 0 Z).2;rcases m1 with _|m1
 .cases hF
 refine X1 9 1 h Z (qp Z hF ?_ ?_)<;>intro hF
 .refine X1 8 1 h Z (uj h hF (ro (h.own 2 Z)) Z fun Y _ S6 p8 k7 h hF=>cq Z ?_);have h:=h.p [4,0,1,2,3,5,6,7,8] Z;obtain⟨⟨r4,i8,i9⟩,P,hF⟩:=qc hF;refine bA (cB 206 Z) (CH (s:=(⟨s.code,p,t⟩:qb)) (sinks:=(Y.length:Int)) h (show qm.R _ _ ((⟨s.code,p,t⟩:qb):qb) _ from⟨[oL p1 s.code b],[vi p,vi t],Z,⟨_,_,Z,(qE (h.frG 8 0 1 Z Z Z)).1⟩,⟨[vi p],[vi t],Z,Z,Z⟩⟩) P) Z Z Z Z ?_;rintro _ _ ⟨S7,_,rfl,h⟩;obtain⟨p9,k8,T,k9,W,R,X,S,rfl,-,-,-,-⟩:=dz (h.own 0 Z);replace h:SH _ _ [oW S7 (r4:aJ) (nW r4 p9 T W X k8 k9 R S),xb a s p1 b i8 i9,oW S6 (Y:List Int) [oL p8 Y k7],oW J (x1:List aJ) [oL H x1 D],oX l (ba c y z A k3 v x) 31,oW I (c:qk) (ba c y z A k3 v x),oX f [oL i r1.Au g] 26,oW S2 (r1:qB) [oL i r1.Au g],oX d RG 34,xf k w F s p1 b]:=h;refine kh qa [.tmp 31] _ ([r4]:List aJ) [1,2,3,4,5,6,7,8,9] h Z Z Z Z Z Z Z Z Z (fU (qS 0 h Z) pe Z) Z Z fun _ _ _ h=>?_;obtain⟨_,o,hF⟩:=qc hF;obtain⟨g1,o⟩:=qH o;have h:=h.p [0,3,1,2,4,5,6,7,8,9] Z;refine zA qa h Z Z Z Z Z Z Z Z Z g1 o Z fun _ _ _ _ h=>X0 8 Z ?_;exact rK ⟨_,_,_,_,_,_,_,_,hF,Z,h.p [0,3,4,1,5,6,7,8] Z⟩ Z
 refine qx Z ?_;cases qe hF;replace hF:=K;refine X2 5 4 1 h Z (dK (qC qa [0,1,2] [.tmp 34,.tmp 35,.tmp 36] z8) Z (zs 6 h Z fun _ h=>ac ?_));have M:=h;obtain⟨_,h⟩:=h.gather [1,3,4,6,7] (K9 (⟨r1,c,x1⟩:qf) h (qS 5 h Z) (qS 2 h Z) (qS 0 h Z) (by rfl) (by rfl)) Z;obtain rfl:=qe hF;have h:=h.p [0,2,5] Z;exact bX qa [oV qf [oL i r1.Au g,oL y c.Ab k3,oL z c.Am v,oL A c.Ai x,oL H x1 D]] ⟨⟨_,_,_,Z,Z,M.box 6 Z,Z⟩,G⟩ ⟨_,_,Z,Cv 1 1 h0 h Z Z⟩
def sw(n:Nat)(Ce:qb):Option (qf×Int×Int):=(qt n (⟨Ce.code,Ce.at_,Ce.seed⟩:qb) 3).bind fun(s,t,u)=>(kV n (⟨Ce.code,t,u⟩:qb) 6 (s==0)).bind fun(r1,v,x)=>(qt n (⟨Ce.code,v,x⟩:qb) (r1.Ah.length:Int)).bind fun(c,y,i8)=>(qt n (⟨Ce.code,y,i8⟩:qb) 20).bind fun(f,a,b)=>bif (f==0) then(wT r1.Ah 1 (r1.Ah.length:Int)).bind fun x1=>V ((⟨(⟨r1.Ar.Au⟩:qB),(⟨r1.Aa.Ab,r1.Aa.Am,r1.Aa.Ai⟩:qk),x1⟩:qf),a,b) else bif (f==1) then(qF r1.Ah c).bind fun i=>(kU n i.Bj).bind fun z=>(dj z ([0]:List Int)).bind fun A=>V ((⟨r1.Ar,r1.Aa,(ak r1.Ah c (⟨i.Ak,i.Bw,i.Br,A⟩:aJ))⟩:qf),a,b) else bif (f==2) then(qF r1.Ah c).bind fun g=>(qF g.Bw 0).bind fun _=>V ((⟨r1.Ar,r1.Aa,(ak r1.Ah c (⟨g.Ak,(ak g.Bw 0 1),g.Br,g.Bj⟩:aJ))⟩:qf),a,b) else bif (f==3) then(qF r1.Ah c).bind fun h=>(qt n (⟨Ce.code,a,b⟩:qb) 3).bind fun(k,l,m)=>(qF ([(-1),500,501]:List Int) k).bind fun B=>(qF h.Br 0).bind fun _=>V ((⟨r1.Ar,r1.Aa,(ak r1.Ah c (⟨h.Ak,h.Bw,(ak h.Br 0 B),h.Bj⟩:aJ))⟩:qf),l,m) else bif (f==4) then(qF r1.Ah c).bind fun d=>(qt n (⟨Ce.code,a,b⟩:qb) 5).bind fun(p,i16,r)=>(qF d.Ak (qj ((d.Ak.length:Int)-1))).bind fun _=>V ((⟨r1.Ar,r1.Aa,(ak r1.Ah c (⟨(ak d.Ak (qj ((d.Ak.length:Int)-1)) (qj (p-1))),d.Bw,d.Br,d.Bj⟩:aJ))⟩:qf),i16,r) else bif (f==5) then(qF r1.Aa.Ai 0).bind fun C=>V ((⟨r1.Ar,(⟨r1.Aa.Ab,r1.Aa.Am,(ak r1.Aa.Ai 0 ({ C with Bx:=3 }))⟩:qk),r1.Ah⟩:qf),a,b) else V (r1,a,b)
theorem DZ{n w0 w F}{Ce:qb}{B p1 N}(h0:SH w0 w (xb B Ce p1 N Ce.at_ Ce.seed::F))(ha1:qm.R w (Fr w0 F) Ce (ao Ce p1 N)){r:qf×Int×Int}(hF:sw n Ce=V r):wX prog 203 [vp B] w (fun us w'=>∃S1 cs1,us=[oV qf cs1]/\SH w0 w' (oG (fun _=>False) S1 [ti (r.1:qf) cs1]::xb B Ce p1 N r.2.1 r.2.2::F)):=by
 have h:=Da h0 ha1;refine cp func203 Z (m:=90) Z Z (dE (qi qa h Z Z Z fun w1 H h=>X0 5 Z ?_));have h:=h.p [1,0,2] Z;obtain⟨⟨i1,i2,i3⟩,hr1,hF⟩:=qc hF;refine lZ h (h.frG 2 0 1 Z Z Z) hr1 Z Z Z fun _ h=>cq Z ?_;obtain⟨⟨r1,i4,i5⟩,hr2,hF⟩:=qc hF;refine bA (cB 149 Z) (lu (s:=(⟨Ce.code,i2,i3⟩:qb)) (most:=6) (wild:=(i1==0)) h (show qm.R _ _ ((⟨Ce.code,i2,i3⟩:qb):qb) _ from⟨[oL p1 Ce.code N],[vi i2,vi i3],Z,⟨_,_,Z,(qE (h.frG 2 0 1 Z Z Z)).1⟩,⟨[vi i2],[vi i3],Z,Z,Z⟩⟩) hr2) Z Z Z Z ?_;rintro _ _ ⟨S2,_,rfl,h⟩;obtain⟨p,o,f,k3,c,a,d,b,l,k,rfl,-,-,-,-,-⟩:=qW (h.own 0 Z);replace h:SH _ _ [oW S2 (r1:qf) (qN r1 p f c d l o k3 a b k),xb B Ce p1 N i4 i5,oX H RG 34,xf w0 w F Ce p1 N]:=h;refine qi qa h Z Z Z fun _ P h=>zs 0 h Z fun _ h=>X1 7 0 h Z ?_;have h:=h.p [2,0,1,3,4] Z;obtain⟨⟨t,_,_⟩,hr3,hF⟩:=qc hF;refine lZ h (h.frG 4 0 1 Z Z Z) hr3 Z Z Z fun _ h=>X0 6 Z ?_;obtain⟨⟨_,i10,i11⟩,hr4,hF⟩:=qc hF;refine lZ h (h.frG 4 0 1 Z Z Z) hr4 Z Z Z fun _ h=>X0 7 Z (qp Z hF ?_ ?_)<;>intro hF
 .refine X1 3 1 h Z ?_;obtain⟨x1,hx1,hF⟩:=qc hF;obtain⟨p7,k7,hp1,hk1,hl1,g1⟩:=TF (fN (h.own 2 Z)).2.2.2.2.1 hx1;refine dK (HC qa Z Z Z (TD g1 (fN (h.own 2 Z)).2.2.2.2.2) hp1 hk1 hl1 Z Z Z Z) Z (cq Z (zs 1 h Z fun _ h=>X1 5 1 h Z (zs 3 h Z fun _ h=>ac ?_)));have hk2:=h;have h:=h.frzI 2 Z;have h:=h.grpAdd 2 Z (x:=((⟨(⟨r1.Ar.Au⟩:qB),r1.Aa,x1⟩:qf):qf)) (show qm.R _ _ ((⟨(⟨r1.Ar.Au⟩:qB),r1.Aa,x1⟩:qf):qf) _ from⟨[oL p r1.Ar.Au o],[oL f r1.Aa.Ab k3,oL c r1.Aa.Am a,oL d r1.Aa.Ai b,oL p7 x1 k7],Z,⟨_,_,Z,(fN (h.grpS 2 0 Z Z)).1.1⟩,⟨[oL f r1.Aa.Ab k3,oL c r1.Aa.Am a,oL d r1.Aa.Ai b],[oL p7 x1 k7],Z,⟨[oL f r1.Aa.Ab k3],[oL c r1.Aa.Am a,oL d r1.Aa.Ai b],Z,⟨_,_,Z,(fN (h.grpS 2 0 Z Z)).2.1.1⟩,⟨[oL c r1.Aa.Am a],[oL d r1.Aa.Ai b],Z,⟨_,_,Z,(fN (h.grpS 2 0 Z Z)).2.2.1.1⟩,⟨_,_,Z,(fN (h.grpS 2 0 Z Z)).2.2.2.1.1⟩⟩⟩,⟨_,_,Z,(ZN (fN (h.grpS 2 0 Z Z)).2.2.2.2.1 hx1 hp1 hk1)⟩⟩⟩);have h:=h.grpKeep [0] 2 Z;obtain rfl:=qe hF;have h:=h.p [2,0,4] Z;exact bX qa [oV qf [oL p r1.Ar.Au o,oL f r1.Aa.Ab k3,oL c r1.Aa.Am a,oL d r1.Aa.Ai b,oL p7 x1 k7]] ⟨⟨_,_,_,Z,Z,hk2.box 3 Z,Z⟩,G⟩ ⟨_,_,Z,Cv 1 1 h0 h Z Z⟩
 refine X0 5 Z (qp Z hF ?_ ?_)<;>intro hF
 .have h:=h.p [2,0,1,3,4] Z;obtain⟨S3,S4,_,h⟩:=sd h;obtain⟨g,hy1,hF⟩:=qc hF;have I:=bH hy1;obtain⟨_,S7,_,h⟩:=h.take hy1;obtain⟨p8,k8,p9,k9,a5,a4,p11,k11,rfl,-,-,-,-⟩:=dz (h.own 0 Z);obtain⟨S8,S9,S10,S11,h⟩:=vr h;refine rA [14] [4,8] h Z fun _ h=>M2 63 [0,1,2,3,4,5] 1 1 (h.p [4,8] Z) Z ?_;obtain⟨_,hp2,-,-,hl3⟩:=h.holeAt 4 Z;obtain⟨q1,hq1⟩:∃q,q=0+(t).toNat*qm.k aJ:=⟨_,Z⟩;refine Ax 6 127 hp2 hq1 ⟨I.1,qD I.2.1 hl3⟩ (h.p [4,8] Z) Z (M0 255 [7] (h.p [4,8] Z) Z (Aw 8 511 (fun w' hw=>cR qa (sE hw 0 Z hp2 hq1) (j:=3) Z Z Z) (h.p [4,8] Z) Z ?_));obtain⟨r2,hr5,hF⟩:=qc hF;obtain⟨x2,J,hF⟩:=qc hF;refine sg (fun e w'=>∃S22 p22 k19,e=[(2,vp H),(3,vp P)]/\SH w0 w' [oW S22 (x2:List Int) [oL p22 x2 k19],oW S10 (g.Br:List Int) [oL a5 g.Br a4],oW S9 (g.Bw:List Int) [oL p9 g.Bw k9],oW S8 (g.Ak:List Int) [oL p8 g.Ak k8],Ch.hole S7 (r1.Ah:List aJ) l r1.Ah.length k (t).toNat [oL p8 g.Ak k8,oL p9 g.Bw k9,oL a5 g.Br a4,oL p22 x2 k19],oW S4 (r1.Aa:qk) (ba r1.Aa f c d k3 a b),oW S3 (r1.Ar:qB) [oL p r1.Ar.Au o],xb B Ce p1 N i10 i11,oX P (qN r1 p f c d l o k3 a b k) 34,oX H RG 34,xf w0 w F Ce p1 N]) 0 (bits 15 32767) ?_ ?_
  .intro K;refine At 9 10 1023 1535 Z ?_ ?_
   .refine tR r2 h (cB 242 Z) (mn (h.own 0 Z) hr5) Z Z Z Z fun w20 S19 p19 k17 h=>Ag (h.p [5,9] Z) (Ao 10 2047 Z (qv qa [.const (vi (0))] _ ([0]:List Int) h z9 ⟨Z,G⟩ Z fun w21 p20 S20 h=>Ag (h.p [6,10] Z) (Ao 11 4095 Z ?_)));obtain⟨g4,J⟩:=qH J;refine bo qa 1 h Z (h.sl 0 Z).1 (h.sl 0 Z).2 z9 g4 J Z fun w22 p21 k18 S21 h=>Ag (h.p [6,10] Z) (Ao 12 8191 Z ?_);obtain⟨b4,T,-,-,hl9⟩:=h.holeAt 6 Z;obtain⟨q4,W⟩:∃q,q=0+(t).toNat*qm.k aJ:=⟨_,Z⟩;refine zx T W ⟨I.1,qD I.2.1 hl9⟩ Z (G0 16383 [13] (h.p [6,10] Z) Z (Ao 14 32767 Z (GR qa 6 3 h Z T W Z Z Z Z Z Z fun w23 h=>bL (fun hs=>absurd (hs 14 (by decide)) (by decide)) ?_)));have h:=h.p [1,3,4,5,6,7,8,9,10,11,12] Z;exact aK K ⟨_,_,_,Z,h⟩ Z
   refine qv qa [.const (vi (0))] _ ([0]:List Int) h z9 ⟨Z,G⟩ Z fun w20 p19 S19 h=>Ag (h.p [5,9] Z) (Ao 9 2047 Z (tR r2 h (cB 242 Z) (mn (h.own 1 Z) hr5) Z Z Z Z fun w21 S20 p20 k17 h=>Ag (h.p [6,10] Z) (Ao 11 4095 Z ?_)));obtain⟨g4,J⟩:=qH J;refine bo qa 0 h Z (h.sl 1 Z).1 (h.sl 1 Z).2 z9 g4 J Z fun w22 p21 k18 S21 h=>Ag (h.p [6,10] Z) (Ao 12 8191 Z ?_);obtain⟨b4,T,-,-,hl9⟩:=h.holeAt 6 Z;obtain⟨q4,W⟩:∃q,q=0+(t).toNat*qm.k aJ:=⟨_,Z⟩;refine zx T W ⟨I.1,qD I.2.1 hl9⟩ Z (G0 16383 [13] (h.p [6,10] Z) Z (Ao 14 32767 Z (GR qa 6 3 h Z T W Z Z Z Z Z Z fun w23 h=>?_)));replace h:SH _ _ [oW S21 (x2:List Int) [oL p21 x2 k18],oW S19 (([0]:List Int):List Int) [oS p19 1 1],oW S11 (g.Bj:List Int) [oL p11 g.Bj k11],oW S10 (g.Br:List Int) [oL a5 g.Br a4],oW S9 (g.Bw:List Int) [oL p9 g.Bw k9],oW S8 (g.Ak:List Int) [oL p8 g.Ak k8],Ch.hole S7 (r1.Ah:List aJ) l r1.Ah.length k (t).toNat [oL p8 g.Ak k8,oL p9 g.Bw k9,oL a5 g.Br a4,oL p21 x2 k18],oW S4 (r1.Aa:qk) (ba r1.Aa f c d k3 a b),oW S3 (r1.Ar:qB) [oL p r1.Ar.Au o],xb B Ce p1 N i10 i11,oX P (qN r1 p f c d l o k3 a b k) 34,oX H RG 34,xf w0 w F Ce p1 N]:=h;refine bL (fun hs=>absurd (hs 14 (by decide)) (by decide)) ?_;have h:=h.p [0,3,4,5,6,7,8,9,10,11,12] Z;exact aK K ⟨_,_,_,Z,h⟩ Z
  rintro _ _ ⟨S22,p22,k19,rfl,h⟩;refine Ad (X1 4 8 h Z (zs 9 h Z fun _ h=>ac ?_));have hk3:=h;obtain⟨_,h⟩:=h.gather [4,5,6,7,8,9,10] (yD (⟨g.Ak,g.Bw,g.Br,x2⟩:aJ) h (qS 3 h Z) (qS 2 h Z) (qS 1 h Z) (qS 0 h Z) (by rfl) (by rfl) (by rfl)) Z;have h:=h.put;obtain⟨_,h⟩:=FF (S:=_) h;have h:=h.frzI 2 Z;have h:=h.frzI 1 Z;have h:=h.frzI 0 Z;have h:=h.p [2,1,0,3,4,5,6] Z;have h:=SH.merge h;have h:=SH.merge h;have h:=h.grpAdd 0 Z (x:=((⟨r1.Ar,r1.Aa,(ak r1.Ah t (⟨g.Ak,g.Bw,g.Br,x2⟩:aJ))⟩:qf):qf)) (show qm.R _ _ ((⟨(⟨r1.Ar.Au⟩:qB),r1.Aa,(ak r1.Ah t (⟨g.Ak,g.Bw,g.Br,x2⟩:aJ))⟩:qf):qf) _ from⟨[oL p r1.Ar.Au o],[oL f r1.Aa.Ab k3,oL c r1.Aa.Am a,oL d r1.Aa.Ai b,oL l r1.Ah k],Z,⟨_,_,Z,(tQ (h.grpS 0 0 Z Z)).1⟩,⟨[oL f r1.Aa.Ab k3,oL c r1.Aa.Am a,oL d r1.Aa.Ai b],[oL l r1.Ah k],Z,⟨[oL f r1.Aa.Ab k3],[oL c r1.Aa.Am a,oL d r1.Aa.Ai b],Z,⟨_,_,Z,(gN (h.grpS 0 1 Z Z)).1.1⟩,⟨[oL c r1.Aa.Am a],[oL d r1.Aa.Ai b],Z,⟨_,_,Z,(gN (h.grpS 0 1 Z Z)).2.1.1⟩,⟨_,_,Z,(gN (h.grpS 0 1 Z Z)).2.2.1⟩⟩⟩,(h.grpS 0 2 Z Z)⟩⟩);have h:=h.grpKeep [0] 0 Z;obtain rfl:=qe hF;have h:=h.p [0,1,4] Z;exact bX qa [oV qf (qN r1 p f c d l o k3 a b k)] ⟨⟨_,_,_,Z,Z,hk3.box 9 Z,Z⟩,G⟩ ⟨_,_,Z,Cv 1 1 h0 h Z Z⟩
 refine X0 5 Z (qp Z hF ?_ ?_)<;>intro hF
 .refine X1 4 1 h Z ?_;have h:=h.p [2,0,1,3,4] Z;obtain⟨_,_,_,h⟩:=sd h;obtain⟨O,hy2,hF⟩:=qc hF;have he2:=bH hy2;obtain⟨_,_,_,h⟩:=h.take hy2;obtain⟨_,_,_,_,_,_,_,_,rfl,-,-,-,-⟩:=dz (h.own 0 Z);obtain⟨_,_,_,_,h⟩:=vr h;obtain⟨_,hp6,-,-,hl11⟩:=h.holeAt 4 Z;obtain⟨q5,hq5⟩:∃q,q=0+(t).toNat*qm.k aJ:=⟨_,Z⟩;refine zx hp6 hq5 ⟨he2.1,qD he2.2.1 hl11⟩ Z (cq Z (zc 1 (sE h 4 Z hp6 hq5) Z ?_));obtain⟨_,hy3,hF,he3,_,_,_,_,hp7,hq6,rfl,hc5⟩:=(h.sl 2 Z).1.ix hF;refine zx hp7 hq6 ⟨he3.1,qD he3.2.1 (h.sl 2 Z).2⟩ Z (bK qa 2 0 1 h Z hy3 hp7 hq6 Z hc5 Z Z Z Z Z Z Z fun _ h=>X1 5 8 h Z (zs 9 h Z fun _ h=>ac ?_));have hk4:=h;obtain⟨_,h⟩:=h.gather [4,5,6,7,8,9,10] (yD (⟨O.Ak,(ak O.Bw 0 1),O.Br,O.Bj⟩:aJ) h (qS 3 h Z) (qS 2 h Z) (qS 1 h Z) (qS 0 h Z) (by rfl) (by rfl) (by rfl)) Z;have h:=h.put;obtain⟨_,h⟩:=FF (S:=_) h;have h:=h.frzI 2 Z;have h:=h.frzI 1 Z;have h:=h.frzI 0 Z;have h:=h.p [2,1,0,3,4,5,6] Z;have h:=SH.merge h;have h:=SH.merge h;have h:=h.grpAdd 0 Z (x:=((⟨r1.Ar,r1.Aa,(ak r1.Ah t (⟨O.Ak,(ak O.Bw 0 1),O.Br,O.Bj⟩:aJ))⟩:qf):qf)) (show qm.R _ _ ((⟨(⟨r1.Ar.Au⟩:qB),r1.Aa,(ak r1.Ah t (⟨O.Ak,(ak O.Bw 0 1),O.Br,O.Bj⟩:aJ))⟩:qf):qf) _ from⟨[oL p r1.Ar.Au o],[oL f r1.Aa.Ab k3,oL c r1.Aa.Am a,oL d r1.Aa.Ai b,oL l r1.Ah k],Z,⟨_,_,Z,(tQ (h.grpS 0 0 Z Z)).1⟩,⟨[oL f r1.Aa.Ab k3,oL c r1.Aa.Am a,oL d r1.Aa.Ai b],[oL l r1.Ah k],Z,⟨[oL f r1.Aa.Ab k3],[oL c r1.Aa.Am a,oL d r1.Aa.Ai b],Z,⟨_,_,Z,(gN (h.grpS 0 1 Z Z)).1.1⟩,⟨[oL c r1.Aa.Am a],[oL d r1.Aa.Ai b],Z,⟨_,_,Z,(gN (h.grpS 0 1 Z Z)).2.1.1⟩,⟨_,_,Z,(gN (h.grpS 0 1 Z Z)).2.2.1⟩⟩⟩,(h.grpS 0 2 Z Z)⟩⟩);have h:=h.grpKeep [0] 0 Z;obtain rfl:=qe hF;have h:=h.p [0,1,4] Z;exact bX qa [oV qf (qN r1 p f c d l o k3 a b k)] ⟨⟨_,_,_,Z,Z,hk4.box 9 Z,Z⟩,G⟩ ⟨_,_,Z,Cv 1 1 h0 h Z Z⟩
 refine X0 5 Z (qp Z hF ?_ ?_)<;>intro hF
 .have h:=h.p [2,0,1,3,4] Z;obtain⟨S36,S37,_,h⟩:=sd h;obtain⟨i,hy4,hF⟩:=qc hF;have he4:=bH hy4;obtain⟨_,S40,_,h⟩:=h.take hy4;obtain⟨p27,k24,p28,k25,p29,k26,p30,k27,rfl,-,-,-,-⟩:=dz (h.own 0 Z);obtain⟨S41,S42,S43,S44,h⟩:=vr h;refine rA [] [4,8] h Z fun _ h=>M1 7 [0,1,2] 1 (h.p [4,8] Z) Z ?_;obtain⟨_,hp8,-,-,hl13⟩:=h.holeAt 4 Z;obtain⟨q7,hq7⟩:∃q,q=0+(t).toNat*qm.k aJ:=⟨_,Z⟩;refine Ax 3 15 hp8 hq7 ⟨he4.1,qD he4.2.1 hl13⟩ (h.p [4,8] Z) Z (M0 31 [4] (h.p [4,8] Z) Z (Aw 5 63 (fun w' hw=>cR qa (sE hw 0 Z hp8 hq7) (j:=2) Z Z Z) (h.p [4,8] Z) Z ?_));refine M0 191 [7] (h.p [4,8] Z) Z ?_;obtain⟨⟨_,i13,i14⟩,hr9,hF⟩:=qc hF;obtain⟨y5,L,hF⟩:=qc hF;obtain⟨_,M,hF⟩:=qc hF;refine sg (fun e w'=>e=[(2,vp H),(3,vp P)]/\SH w0 w' [xb B Ce p1 N i13 i14,oW S44 (i.Bj:List Int) [oL p30 i.Bj k27],oW S43 ((ak i.Br 0 y5):List Int) [oL p29 i.Br k26],oW S42 (i.Bw:List Int) [oL p28 i.Bw k25],oW S41 (i.Ak:List Int) [oL p27 i.Ak k24],Ch.hole S40 (r1.Ah:List aJ) l r1.Ah.length k (t).toNat [oL p27 i.Ak k24,oL p28 i.Bw k25,oL p29 i.Br k26,oL p30 i.Bj k27],oW S37 (r1.Aa:qk) (ba r1.Aa f c d k3 a b),oW S36 (r1.Ar:qB) [oL p r1.Ar.Au o],oX P (qN r1 p f c d l o k3 a b k) 34,oX H RG 34,xf w0 w F Ce p1 N]) 0 (bits 13 8191) ?_ ?_
  .intro K;refine At 6 8 255 447 Z ?_ ?_
   .refine qv qa [.const (vi (-1)),.const (vi (500)),.const (vi (501))] _ ([(-1),500,501]:List Int) h z9 ⟨Z,Z,Z,G⟩ Z fun w36 p33 S47 h=>Ag (h.p [5,9] Z) (Ao 8 511 Z ?_);have h:=h.p [8,0,1,2,3,4,5,6,7,9,10,11] Z;refine lZ h (h.frG 11 0 1 Z Z Z) hr9 Z Z Z fun w37 h=>Ag (h.p [6,9] Z) ?_;have R:=bH L;obtain⟨b12,o_7,q12,cs11,v,z,-,X,hc11⟩:=(h.sl 1 Z).1.at L;obtain rfl:=X;refine Ax 9 1023 v z ⟨R.1,qD R.2.1 (h.sl 1 Z).2⟩ (h.p [6,9] Z) Z (Ao 10 2047 Z (dK (cR qa (qQ (w1:=w) (S1:=fun _=>False) h 1 Z L v z Z) (j:=0) Z Z Z) Z (Ag (h.p [6,9] Z) ?_)));have u:=bH M;obtain⟨b13,o_8,q13,cs12,y,A,-,Y,Q⟩:=(h.sl 3 Z).1.at M;obtain rfl:=Y;refine Ax 11 4095 y A ⟨u.1,qD u.2.1 (h.sl 3 Z).2⟩ (h.p [6,9] Z) Z (Ao 12 8191 Z (bK qa 3 0 y5 h Z M y A Z Q Z Z Z Z Z Z Z fun w38 h=>Ag (h.p [6,9] Z) ?_));have h:=h.p [0,2,3,4,5,6,7,8,9,10,11] Z;exact aK K ⟨Z,h⟩ Z
   have h:=h.p [7,0,1,2,3,4,5,6,8,9,10] Z;refine lZ h (h.frG 10 0 1 Z Z Z) hr9 Z Z Z fun w36 h=>Ag (h.p [5,8] Z) (Ao 6 511 Z (qv qa [.const (vi (-1)),.const (vi (500)),.const (vi (501))] _ ([(-1),500,501]:List Int) h z9 ⟨Z,Z,Z,G⟩ Z fun w37 p33 S47 h=>Ag (h.p [6,9] Z) ?_));have R:=bH L;obtain⟨b12,o_7,q12,cs11,v,z,-,X,hc11⟩:=(h.sl 0 Z).1.at L;obtain rfl:=X;refine Ax 9 1023 v z ⟨R.1,qD R.2.1 (h.sl 0 Z).2⟩ (h.p [6,9] Z) Z (Ao 10 2047 Z (dK (cR qa (qQ (w1:=w) (S1:=fun _=>False) h 0 Z L v z Z) (j:=0) Z Z Z) Z (Ag (h.p [6,9] Z) ?_)));have u:=bH M;obtain⟨b13,o_8,q13,cs12,y,A,-,Y,Q⟩:=(h.sl 3 Z).1.at M;obtain rfl:=Y;refine Ax 11 4095 y A ⟨u.1,qD u.2.1 (h.sl 3 Z).2⟩ (h.p [6,9] Z) Z (Ao 12 8191 Z (bK qa 3 0 y5 h Z M y A Z Q Z Z Z Z Z Z Z fun w38 h=>Ag (h.p [6,9] Z) ?_));have h:=h.p [1,2,3,4,5,6,7,8,9,10,11] Z;exact aK K ⟨Z,h⟩ Z
  rintro _ _ ⟨rfl,h⟩;refine Ad (X1 4 8 h Z (zs 9 h Z fun _ h=>ac ?_));have hk5:=h;obtain⟨_,h⟩:=h.gather [0,5,6,7,8,9,10] (yD (⟨i.Ak,i.Bw,(ak i.Br 0 y5),i.Bj⟩:aJ) h (qS 4 h Z) (qS 3 h Z) (qS 2 h Z) (qS 1 h Z) (by rfl) (by rfl) (by rfl)) Z;have h:=h.p [0,2,1,3,4,5,6,7] Z;have h:=h.put;obtain⟨_,h⟩:=FF (S:=_) h;have h:=h.frzI 3 Z;have h:=h.frzI 2 Z;have h:=h.frzI 0 Z;have h:=h.p [3,2,0,1,4,5,6] Z;have h:=SH.merge h;have h:=SH.merge h;have h:=h.grpAdd 0 Z (x:=((⟨r1.Ar,r1.Aa,(ak r1.Ah t (⟨i.Ak,i.Bw,(ak i.Br 0 y5),i.Bj⟩:aJ))⟩:qf):qf)) (show qm.R _ _ ((⟨(⟨r1.Ar.Au⟩:qB),r1.Aa,(ak r1.Ah t (⟨i.Ak,i.Bw,(ak i.Br 0 y5),i.Bj⟩:aJ))⟩:qf):qf) _ from⟨[oL p r1.Ar.Au o],[oL f r1.Aa.Ab k3,oL c r1.Aa.Am a,oL d r1.Aa.Ai b,oL l r1.Ah k],Z,⟨_,_,Z,(tQ (h.grpS 0 0 Z Z)).1⟩,⟨[oL f r1.Aa.Ab k3,oL c r1.Aa.Am a,oL d r1.Aa.Ai b],[oL l r1.Ah k],Z,⟨[oL f r1.Aa.Ab k3],[oL c r1.Aa.Am a,oL d r1.Aa.Ai b],Z,⟨_,_,Z,(gN (h.grpS 0 1 Z Z)).1.1⟩,⟨[oL c r1.Aa.Am a],[oL d r1.Aa.Ai b],Z,⟨_,_,Z,(gN (h.grpS 0 1 Z Z)).2.1.1⟩,⟨_,_,Z,(gN (h.grpS 0 1 Z Z)).2.2.1⟩⟩⟩,(h.grpS 0 2 Z Z)⟩⟩);have h:=h.grpKeep [0] 0 Z;obtain rfl:=qe hF;have h:=h.p [0,1,4] Z;exact bX qa [oV qf (qN r1 p f c d l o k3 a b k)] ⟨⟨_,_,_,Z,Z,hk5.box 9 Z,Z⟩,G⟩ ⟨_,_,Z,Cv 1 1 h0 h Z Z⟩
 refine X0 5 Z (qp Z hF ?_ ?_)<;>intro hF
 .have h:=h.p [2,0,1,3,4] Z;obtain⟨_,_,_,h⟩:=sd h;obtain⟨C,hy7,hF⟩:=qc hF;have D:=bH hy7;obtain⟨_,_,_,h⟩:=h.take hy7;obtain⟨_,_,_,_,_,_,_,_,rfl,-,-,-,-⟩:=dz (h.own 0 Z);obtain⟨_,_,_,_,h⟩:=vr h;refine rA [] [4,8] h Z fun _ h=>M1 7 [0,1,2] 1 (h.p [4,8] Z) Z ?_;obtain⟨_,hp15,-,-,hl15⟩:=h.holeAt 4 Z;obtain⟨q14,hq14⟩:∃q,q=0+(t).toNat*qm.k aJ:=⟨_,Z⟩;refine Ax 3 15 hp15 hq14 ⟨D.1,qD D.2.1 hl15⟩ (h.p [4,8] Z) Z (M0 31 [4] (h.p [4,8] Z) Z (Aw 5 63 (fun w' hw=>cR qa (sE hw 0 Z hp15 hq14) (j:=0) Z Z Z) (h.p [4,8] Z) Z ?_));refine M1 511 [6,7,8] 1 (h.p [4,8] Z) Z ?_;obtain⟨_,hp16,-,-,hl17⟩:=h.holeAt 4 Z;obtain⟨q15,hq15⟩:∃q,q=0+(t).toNat*qm.k aJ:=⟨_,Z⟩;refine Ax 9 1023 hp16 hq15 ⟨D.1,qD D.2.1 hl17⟩ (h.p [4,8] Z) Z (M0 2047 [10] (h.p [4,8] Z) Z (Aw 11 4095 (fun w' hw=>cR qa (sE hw 0 Z hp16 hq15) (j:=0) Z Z Z) (h.p [4,8] Z) Z ?_));refine M0 32767 [12,13,14] (h.p [4,8] Z) Z (Ao 15 65535 Z ?_);have h:=h.p [7,0,1,2,3,4,5,6,8,9,10] Z;obtain⟨⟨a3,_,_⟩,hr16,hF⟩:=qc hF;refine lZ h (h.frG 10 0 1 Z Z Z) hr16 Z Z Z fun _ h=>G0 131071 [16] (h.p [5,8] Z) Z ?_;obtain⟨_,hy8,hF,he12,_,_,_,_,hp17,hq16,rfl,hc14⟩:=(h.sl 4 Z).1.ix hF;refine Ax 17 262143 hp17 hq16 ⟨he12.1,qD he12.2.1 (h.sl 4 Z).2⟩ (h.p [5,8] Z) Z (Ao 18 524287 Z (bK qa 4 0 (qj (a3-1)) h Z hy8 hp17 hq16 Z hc14 Z Z Z Z Z Z Z fun _ h=>Ag (h.p [5,8] Z) (Ad (X1 4 8 h Z (zs 9 h Z fun _ h=>ac ?_)))));have hk6:=h;obtain⟨_,h⟩:=h.gather [0,5,6,7,8,9,10] (yD (⟨(ak C.Ak (qj ((C.Ak.length:Int)-1)) (qj (a3-1))),C.Bw,C.Br,C.Bj⟩:aJ) h (qS 4 h Z) (qS 3 h Z) (qS 2 h Z) (qS 1 h Z) (by rfl) (by rfl) (by rfl)) Z;have h:=h.p [0,2,1,3,4,5,6,7] Z;have h:=h.put;obtain⟨_,h⟩:=FF (S:=_) h;have h:=h.frzI 3 Z;have h:=h.frzI 2 Z;have h:=h.frzI 0 Z;have h:=h.p [3,2,0,1,4,5,6] Z;have h:=SH.merge h;have h:=SH.merge h;have h:=h.grpAdd 0 Z (x:=((⟨r1.Ar,r1.Aa,(ak r1.Ah t (⟨(ak C.Ak (qj ((C.Ak.length:Int)-1)) (qj (a3-1))),C.Bw,C.Br,C.Bj⟩:aJ))⟩:qf):qf)) (show qm.R _ _ ((⟨(⟨r1.Ar.Au⟩:qB),r1.Aa,(ak r1.Ah t (⟨(ak C.Ak (qj ((C.Ak.length:Int)-1)) (qj (a3-1))),C.Bw,C.Br,C.Bj⟩:aJ))⟩:qf):qf) _ from⟨[oL p r1.Ar.Au o],[oL f r1.Aa.Ab k3,oL c r1.Aa.Am a,oL d r1.Aa.Ai b,oL l r1.Ah k],Z,⟨_,_,Z,(tQ (h.grpS 0 0 Z Z)).1⟩,⟨[oL f r1.Aa.Ab k3,oL c r1.Aa.Am a,oL d r1.Aa.Ai b],[oL l r1.Ah k],Z,⟨[oL f r1.Aa.Ab k3],[oL c r1.Aa.Am a,oL d r1.Aa.Ai b],Z,⟨_,_,Z,(gN (h.grpS 0 1 Z Z)).1.1⟩,⟨[oL c r1.Aa.Am a],[oL d r1.Aa.Ai b],Z,⟨_,_,Z,(gN (h.grpS 0 1 Z Z)).2.1.1⟩,⟨_,_,Z,(gN (h.grpS 0 1 Z Z)).2.2.1⟩⟩⟩,(h.grpS 0 2 Z Z)⟩⟩);have h:=h.grpKeep [0] 0 Z;obtain rfl:=qe hF;have h:=h.p [0,1,4] Z;exact bX qa [oV qf (qN r1 p f c d l o k3 a b k)] ⟨⟨_,_,_,Z,Z,hk6.box 9 Z,Z⟩,G⟩ ⟨_,_,Z,Cv 1 1 h0 h Z Z⟩
 refine X0 5 Z (qp Z hF ?_ ?_)<;>intro hF
 .refine X1 4 1 h Z ?_;have h:=h.p [2,0,1,3,4] Z;obtain⟨_,_,_,h⟩:=sd h;have h:=h.p [1,0,2,3,4,5,6] Z;obtain⟨_,_,_,h⟩:=PH h;obtain⟨y9,hy9,hF,he13,_,_,_,_,hp18,hq17,hr18,hc16⟩:=(h.sl 0 Z).1.ix hF;obtain rfl:=lH hr18;refine zx hp18 hq17 ⟨he13.1,qD he13.2.1 (h.sl 0 Z).2⟩ Z (cq Z (bK qa 0 1 ({ y9 with Bx:=3 }:bk) h Z hy9 hp18 hq17 (uE y9) hc16 Z Z Z (uE ({ y9 with Bx:=3 })) Z Z Z fun _ h=>X1 5 6 h Z (zs 7 h Z fun _ h=>ac ?_)));have hk7:=h;have h:=h.frzI 4 Z;have h:=h.frzI 2 Z;have h:=h.frzI 1 Z;have h:=h.frzI 0 Z;have h:=h.frzI 3 Z;have h:=h.p [4,2,0,1,3,5,6,7,8] Z;have h:=SH.merge h;have h:=h.p [0,2,1,3,4,5,6,7] Z;have h:=SH.merge h;have h:=SH.merge h;have h:=SH.merge h;have h:=h.grpAdd 0 Z (x:=((⟨r1.Ar,(⟨r1.Aa.Ab,r1.Aa.Am,(ak r1.Aa.Ai 0 ({ y9 with Bx:=3 }))⟩:qk),r1.Ah⟩:qf):qf)) (show qm.R _ _ ((⟨(⟨r1.Ar.Au⟩:qB),(⟨r1.Aa.Ab,r1.Aa.Am,(ak r1.Aa.Ai 0 ({ y9 with Bx:=3 }))⟩:qk),r1.Ah⟩:qf):qf) _ from⟨[oL p r1.Ar.Au o],[oL f r1.Aa.Ab k3,oL c r1.Aa.Am a,oL d r1.Aa.Ai b,oL l r1.Ah k],Z,⟨_,_,Z,(tQ (h.grpS 0 0 Z Z)).1⟩,⟨[oL f r1.Aa.Ab k3,oL c r1.Aa.Am a,oL d r1.Aa.Ai b],[oL l r1.Ah k],Z,⟨[oL f r1.Aa.Ab k3],[oL c r1.Aa.Am a,oL d r1.Aa.Ai b],Z,(h.grpS 0 1 Z Z),⟨[oL c r1.Aa.Am a],[oL d r1.Aa.Ai b],Z,(h.grpS 0 2 Z Z),(h.grpS 0 3 Z Z)⟩⟩,(h.grpS 0 4 Z Z)⟩⟩);have h:=h.grpKeep [0] 0 Z;obtain rfl:=qe hF;have h:=h.p [0,1,4] Z;exact bX qa [oV qf (qN r1 p f c d l o k3 a b k)] ⟨⟨_,_,_,Z,Z,hk7.box 7 Z,Z⟩,G⟩ ⟨_,_,Z,Cv 1 1 h0 h Z Z⟩
 refine X1 5 1 h Z (zs 3 h Z fun _ h=>ac ?_);have hk8:=h;have h:=h.frzI 2 Z;have h:=h.grpAdd 2 Z (x:=(r1:qf)) (h.grpS 2 0 Z Z);have h:=h.grpKeep [0] 2 Z;obtain rfl:=qe hF;have h:=h.p [2,0,4] Z;exact bX qa [oV qf (qN r1 p f c d l o k3 a b k)] ⟨⟨_,_,_,Z,Z,hk8.box 3 Z,Z⟩,G⟩ ⟨_,_,Z,Cv 1 1 h0 h Z Z⟩
def ph(n:Nat)(s:qb):Option (qf×Int×Int):=(qt n (⟨s.code,s.at_,s.seed⟩:qb) 12).bind fun(c,a,b)=>bif (c==0) then(sw n (⟨s.code,a,b⟩:qb)).bind fun(r1,i,k)=>V (r1,i,k) else bif (c==1) then bif (c==1) then(kV n (⟨s.code,a,b⟩:qb) 6 An).bind fun(r,l,m)=>V (r,l,m) else(kV n (⟨s.code,a,b⟩:qb) 6 Cd).bind fun(t,i8,p)=>V (t,i8,p) else bif (c==2) then(kV n (⟨s.code,a,b⟩:qb) 6 An).bind fun(u,d,f)=>V (u,d,f) else(kV n (⟨s.code,a,b⟩:qb) 6 Cd).bind fun(v,g,h)=>V (v,g,h)
theorem AN{n g w F}{s:qb}{d p1 c}(i:SH g w (xb d s p1 c s.at_ s.seed::F))(ha1:qm.R w (Fr g F) s (ao s p1 c)){r:qf×Int×Int}(hF:ph n s=V r):wX prog 147 [vp d] w (fun us w'=>∃S1 cs1,us=[oV qf cs1]/\SH g w' (oG (fun _=>False) S1 [ti (r.1:qf) cs1]::xb d s p1 c r.2.1 r.2.2::F)):=by
 have h:=Da i ha1;refine cp func147 Z (m:=16) Z Z (dE (qi qa h Z Z Z fun _ f h=>X0 5 Z ?_));have h:=h.p [1,0,2] Z;obtain⟨⟨_,a,b⟩,hr1,hF⟩:=qc hF;refine lZ h (h.frG 2 0 1 Z Z Z) hr1 Z Z Z fun _ h=>X0 7 Z (qp Z hF ?_ ?_)<;>intro hF
 .refine X0 3 Z ?_;obtain⟨⟨r1,i4,i5⟩,hr2,hF⟩:=qc hF;refine bA (cB 203 Z) (DZ (Ce:=(⟨s.code,a,b⟩:qb)) h (show qm.R _ _ ((⟨s.code,a,b⟩:qb):qb) _ from⟨[oL p1 s.code c],[vi a,vi b],Z,⟨_,_,Z,(qE (h.frG 2 0 1 Z Z Z)).1⟩,⟨[vi a],[vi b],Z,Z,Z⟩⟩) hr2) Z Z Z Z ?_;rintro _ _ ⟨S2,_,rfl,h⟩;have hr3:=h.grpS 0 0 Z Z;obtain⟨p2,k2,p3,k3,p4,k4,p5,k5,p6,k6,rfl,_,_,_,_,_⟩:=qW hr3;replace h:SH _ _ [oG (fun _=>False) S2 [ti (r1:qf) (qN r1 p2 p3 p4 p5 p6 k2 k3 k4 k5 k6)],xb d s p1 c i4 i5,oX f RG 34,xf g w F s p1 c]:=h;refine zs 2 h Z fun _ h=>ac ?_;have hk1:=h;have h:=h.grpAdd 0 Z (x:=(r1:qf)) (h.grpS 0 0 Z Z);have h:=h.grpKeep [0] 0 Z;obtain rfl:=qe hF;have h:=h.p [0,1,3] Z;exact bX qa [oV qf (qN r1 p2 p3 p4 p5 p6 k2 k3 k4 k5 k6)] ⟨⟨_,_,_,Z,Z,hk1.box 2 Z,Z⟩,G⟩ ⟨_,_,Z,Cv 1 1 i h Z Z⟩
 refine X0 6 Z (qp Z hF ?_ ?_)<;>intro hF
 .refine ez (qp Z hF ?_ ?_)<;>intro hF
  .refine X0 3 Z ?_;obtain⟨⟨r2,i6,i7⟩,hr5,hF⟩:=qc hF;refine bA (cB 149 Z) (lu (s:=(⟨s.code,a,b⟩:qb)) (most:=6) (wild:=An) h (show qm.R _ _ ((⟨s.code,a,b⟩:qb):qb) _ from⟨[oL p1 s.code c],[vi a,vi b],Z,⟨_,_,Z,(qE (h.frG 2 0 1 Z Z Z)).1⟩,⟨[vi a],[vi b],Z,Z,Z⟩⟩) hr5) Z Z Z Z ?_;rintro _ _ ⟨S3,_,rfl,h⟩;obtain⟨p7,k7,p8,k8,p9,k9,L,k,M,l,rfl,-,-,-,-,-⟩:=qW (h.own 0 Z);replace h:SH _ _ [oW S3 (r2:qf) (qN r2 p7 p8 p9 L M k7 k8 k9 k l),xb d s p1 c i6 i7,oX f RG 34,xf g w F s p1 c]:=h;refine zs 2 h Z fun _ h=>ac ?_;have hk2:=h;have h:=h.frzI 0 Z;have h:=h.grpAdd 0 Z (x:=(r2:qf)) (h.grpS 0 0 Z Z);have h:=h.grpKeep [0] 0 Z;obtain rfl:=qe hF;have h:=h.p [0,1,3] Z;exact bX qa [oV qf (qN r2 p7 p8 p9 L M k7 k8 k9 k l)] ⟨⟨_,_,_,Z,Z,hk2.box 2 Z,Z⟩,G⟩ ⟨_,_,Z,Cv 1 1 i h Z Z⟩
  refine X0 5 Z ?_;obtain⟨⟨r3,i8,i9⟩,hr6,hF⟩:=qc hF;refine bA (cB 149 Z) (lu (s:=(⟨s.code,a,b⟩:qb)) (most:=6) (wild:=Cd) h (show qm.R _ _ ((⟨s.code,a,b⟩:qb):qb) _ from⟨[oL p1 s.code c],[vi a,vi b],Z,⟨_,_,Z,(qE (h.frG 2 0 1 Z Z Z)).1⟩,⟨[vi a],[vi b],Z,Z,Z⟩⟩) hr6) Z Z Z Z ?_;rintro _ _ ⟨S4,_,rfl,h⟩;obtain⟨N,o,O,p,P,t,Q,u,R,v,rfl,-,-,-,-,-⟩:=qW (h.own 0 Z);replace h:SH _ _ [oW S4 (r3:qf) (qN r3 N O P Q R o p t u v),xb d s p1 c i8 i9,oX f RG 34,xf g w F s p1 c]:=h;refine zs 2 h Z fun _ h=>ac ?_;have hk3:=h;have h:=h.frzI 0 Z;have h:=h.grpAdd 0 Z (x:=(r3:qf)) (h.grpS 0 0 Z Z);have h:=h.grpKeep [0] 0 Z;obtain rfl:=qe hF;have h:=h.p [0,1,3] Z;exact bX qa [oV qf (qN r3 N O P Q R o p t u v)] ⟨⟨_,_,_,Z,Z,hk3.box 2 Z,Z⟩,G⟩ ⟨_,_,Z,Cv 1 1 i h Z Z⟩
 refine X0 4 Z (qp Z hF ?_ ?_)<;>intro hF
 .refine X0 3 Z ?_;obtain⟨⟨r4,i10,i11⟩,hr7,hF⟩:=qc hF;refine bA (cB 149 Z) (lu (s:=(⟨s.code,a,b⟩:qb)) (most:=6) (wild:=An) h (show qm.R _ _ ((⟨s.code,a,b⟩:qb):qb) _ from⟨[oL p1 s.code c],[vi a,vi b],Z,⟨_,_,Z,(qE (h.frG 2 0 1 Z Z Z)).1⟩,⟨[vi a],[vi b],Z,Z,Z⟩⟩) hr7) Z Z Z Z ?_;rintro _ _ ⟨S5,_,rfl,h⟩;obtain⟨S,y,T,z,W,A,X,B,Y,C,rfl,-,-,-,-,-⟩:=qW (h.own 0 Z);replace h:SH _ _ [oW S5 (r4:qf) (qN r4 S T W X Y y z A B C),xb d s p1 c i10 i11,oX f RG 34,xf g w F s p1 c]:=h;refine zs 2 h Z fun _ h=>ac ?_;have hk4:=h;have h:=h.frzI 0 Z;have h:=h.grpAdd 0 Z (x:=(r4:qf)) (h.grpS 0 0 Z Z);have h:=h.grpKeep [0] 0 Z;obtain rfl:=qe hF;have h:=h.p [0,1,3] Z;exact bX qa [oV qf (qN r4 S T W X Y y z A B C)] ⟨⟨_,_,_,Z,Z,hk4.box 2 Z,Z⟩,G⟩ ⟨_,_,Z,Cv 1 1 i h Z Z⟩
 refine X0 5 Z ?_;obtain⟨⟨r5,i12,i13⟩,hr8,hF⟩:=qc hF;refine bA (cB 149 Z) (lu (s:=(⟨s.code,a,b⟩:qb)) (most:=6) (wild:=Cd) h (show qm.R _ _ ((⟨s.code,a,b⟩:qb):qb) _ from⟨[oL p1 s.code c],[vi a,vi b],Z,⟨_,_,Z,(qE (h.frG 2 0 1 Z Z Z)).1⟩,⟨[vi a],[vi b],Z,Z,Z⟩⟩) hr8) Z Z Z Z ?_;rintro _ _ ⟨S6,_,rfl,h⟩;obtain⟨e,D,a3,H,a4,I,a5,J,a6,K,rfl,-,-,-,-,-⟩:=qW (h.own 0 Z);replace h:SH _ _ [oW S6 (r5:qf) (qN r5 e a3 a4 a5 a6 D H I J K),xb d s p1 c i12 i13,oX f RG 34,xf g w F s p1 c]:=h;refine zs 2 h Z fun _ h=>ac ?_;have hk5:=h;have h:=h.frzI 0 Z;have h:=h.grpAdd 0 Z (x:=(r5:qf)) (h.grpS 0 0 Z Z);have h:=h.grpKeep [0] 0 Z;obtain rfl:=qe hF;have h:=h.p [0,1,3] Z;exact bX qa [oV qf (qN r5 e a3 a4 a5 a6 D H I J K)] ⟨⟨_,_,_,Z,Z,hk5.box 2 Z,Z⟩,G⟩ ⟨_,_,Z,Cv 1 1 i h Z Z⟩
def fu(s:qb)(r1:List qw)(g:Int):Nat->(List Int)->Int->Int->Int->Option ((List Int)×Int×Int×Int)|0,_,_,_,_=>U|n+1,x1,h,b,a=>bif decide (a<(r1.length:Int)) then(dj x1 ([a]:List Int)).bind fun i=>(qt n (⟨s.code,h,b⟩:qb) (qj (1+g))).bind fun(c,d,f)=>fu s r1 g n i d f (qj (a+(qj (1+c)))) else V (x1,h,b,a)
def ou(n:Nat)(s:qb)(b:qf):Option ((List Int)×Int×Int):=((kT n b).bind fun z=>bif (!z) then V (s.at_,s.seed,An) else(qt n (⟨s.code,s.at_,s.seed⟩:qb) 3).bind fun(i,k,l)=>V (k,l,decide (i > 0))).bind fun(m,p,b1)=>bif b1 then V (([]:List Int),m,p) else(iN n b).bind fun r1=>(qt n (⟨s.code,m,p⟩:qb) 8).bind fun(r,t,u)=>(qt n (⟨s.code,t,u⟩:qb) (qj (1+r))).bind fun(v,x,i8)=>(fu s r1 r n ([]:List Int) x i8 v).bind fun(x1,y,c,_)=>(qt n (⟨s.code,y,c⟩:qb) 12).bind fun(d,i16,a)=>bif (d==0) then(qt n (⟨s.code,i16,a⟩:qb) 2).bind fun(f,g,h)=>(dj x1 ([qj ((r1.length:Int)*f)]:List Int)).bind fun A=>V (A,g,h) else V (x1,i16,a)
theorem zG{n c w F}{s:qb}{a p1 f}{b:qf}{cs1}(x:SH c w (xb a s p1 f s.at_ s.seed::F))(C:qm.R w (Fr c F) s (ao s p1 f))(v:qm.R w (Fr c F) b cs1){r:(List Int)×Int×Int}(hF:ou n s b=V r):wX prog 150 [vp a,gv b cs1] w (fun us w'=>∃S1 cs2,us=[oV (List Int) cs2]/\SH c w' (oW S1 (r.1:List Int) cs2::xb a s p1 f r.2.1 r.2.2::F)):=by
 have h:=Da x C;have M:=v;obtain⟨p2,S,p3,k3,p4,T,p5,W,p6,X,rfl,_,_,_,_,_⟩:=qW v;have h:=h.grpAdd 1 Z M;replace h:SH _ _ [xb a s p1 f s.at_ s.seed,oG (old c) (FS F) [ti (b:qf) (qN b p2 p3 p4 p5 p6 S k3 T W X),ti (s:qb) (ao s p1 f),same c w F]]:=h;refine cp func150 Z (m:=52) Z Z (dE (qJ h Z Z fun _ o h=>X0 4 Z (qv qa [] _ ([]:List Int) h z9 trivial Z fun _ p7 S2 h=>X0 4 Z ?_)));obtain⟨A,u,_,hF,p⟩:=bindE hF;refine bd (fun e w'=>∃N P b1,A (N,P,b1)=V r/\e=[(0,vp a),(3,vp o),(5,oS p7 0 0),(17,.bool b1)]/\SH c w' [oW S2 (([]:List Int):List Int) [oS p7 0 0],oX o (qN b p2 p3 p4 p5 p6 S k3 T W X) 34,xb a s p1 f N P,oG (old c) (FS F) [ti (b:qf) (qN b p2 p3 p4 p5 p6 S k3 T W X),ti (s:qb) (ao s p1 f),same c w F]]) ?_ ?_
 .refine X1 2 1 h Z (dF h hF (oC (h.grp 3 0 Z Z)) Z fun _ _ h hF=>lY Z (qh (t:=13) hF Z ?_ ?_))<;>intro hF
  .refine X0 5 Z ?_;cases qe hF;exact rG ⟨_,_,_,p,Z,h⟩ Z
  refine X0 3 Z ?_;have h:=h.p [2,0,1,3] Z;obtain⟨⟨_,_,_⟩,L,hF⟩:=qc hF;refine lZ h (h.frG 3 1 1 Z Z Z) L Z Z Z fun _ h=>X0 4 Z ?_;have h:=h.p [1,2,0,3] Z;cases qe hF;exact rG ⟨_,_,_,p,Z,h⟩ Z
 rintro _ _ ⟨N,P,b1,hF,rfl,h⟩;subst u;refine qp Z hF ?_ ?_<;>intro hF
 .refine X0 5 Z ?_;obtain rfl:=qe hF;have h:=h.p [0,2,3] Z;exact bX qa [oV (List Int) [oS p7 0 0]] ⟨Z,G⟩ ⟨_,_,Z,Cv 1 2 x h Z Z⟩
 refine X1 4 1 h Z (uj h hF (lw (h.grp 3 0 Z Z)) Z fun r1 _ _ _ _ h hF=>X0 6 Z ?_);have h:=h.p [3,0,1,2,4] Z;obtain⟨⟨i3,_,_⟩,D,hF⟩:=qc hF;refine lZ h (h.frG 4 1 1 Z Z Z) D Z Z Z fun _ h=>X0 8 Z ?_;obtain⟨⟨_,_,_⟩,H,hF⟩:=qc hF;refine lZ h (h.frG 4 1 1 Z Z Z) H Z Z Z fun _ h=>X0 2 Z ?_;have h:=h.grpKeep [1,2] 4 Z;obtain⟨o3,hF,B⟩:=qc hF;refine qr ?_;have h:=h.p [0,2,4] Z;refine rL (fun m e w'=>∃S4 z l y x1 Q k d,fu s r1 i3 m x1 Q k d=V o3/\e=[(0,vp a),(5,oS z l y),(6,vi (r1.length:Int)),(7,vi (qj (1+i3))),(8,vi d)]/\SH c w' [xb a s p1 f Q k,oW S4 (x1:List Int) [oS z l y],xf c w F s p1 f]) n ⟨_,_,_,_,_,_,_,_,hF,Z,h⟩ Z ?_;rintro m1 _ _ ⟨S4,z,l,y,x1,Q,k,d,hF,rfl,h⟩;obtain rfl:=(h.sl 1 Z).2;rcases m1 with _|m1
 .cases hF
 refine X0 7 Z (qp Z hF ?_ ?_)<;>intro hF
 .refine X0 6 Z (qv qa [.tmp 38] _ ([d]:List Int) h z9 ⟨Z,G⟩ Z fun _ _ _ h=>?_);obtain⟨_,g,hF⟩:=qc hF;obtain⟨g1,g⟩:=qH g;refine bo qa 2 h Z (h.sl 0 Z).1 (h.sl 0 Z).2 z9 g1 g Z fun _ _ _ _ h=>X0 7 Z ?_;have h:=h.p [1,0,2,3] Z;obtain⟨⟨_,_,_⟩,I,hF⟩:=qc hF;refine lZ h (h.frG 3 0 1 Z Z Z) I Z Z Z fun _ h=>X0 4 Z ?_;exact rK ⟨_,_,_,_,_,_,_,_,hF,Z,h.p [0,2,3] Z⟩ Z
 refine qx Z ?_;cases qe hF;replace hF:=B;refine X0 4 Z ?_;obtain⟨⟨_,_,_⟩,J,hF⟩:=qc hF;refine lZ h (h.frG 2 0 1 Z Z Z) J Z Z Z fun _ h=>X0 2 Z (qp Z hF ?_ ?_)<;>intro hF
 .refine X0 4 Z ?_;obtain⟨⟨O,_,_⟩,K,hF⟩:=qc hF;refine lZ h (h.frG 2 0 1 Z Z Z) K Z Z Z fun _ h=>cq Z (qv qa [.tmp 48] _ ([qj ((r1.length:Int)*O)]:List Int) h z9 ⟨Z,G⟩ Z fun _ _ _ h=>?_);obtain⟨x3,i,hF⟩:=qc hF;obtain⟨g2,i⟩:=qH i;refine bo qa 2 h Z (h.sl 0 Z).1 (h.sl 0 Z).2 z9 g2 i Z fun _ Y R _ h=>X0 7 Z ?_;obtain rfl:=qe hF;have h:=h.p [2,1,3] Z;exact bX qa [oV (List Int) [oL Y x3 R]] ⟨Z,G⟩ ⟨_,_,Z,Cv 1 1 x h Z Z⟩
 refine X0 6 Z ?_;obtain rfl:=qe hF;have h:=h.p [1,0,2] Z;exact bX qa [oV (List Int) [oL z x1 y]] ⟨Z,G⟩ ⟨_,_,Z,Cv 1 1 x h Z Z⟩
def ow(n:Nat)(s:qb):Option (qG×Int×Int):=(qt n (⟨s.code,s.at_,s.seed⟩:qb) 3).bind fun|(y,z,A)=>(qF ([(⟨#[115,108,111,119]⟩:ByteArray),(⟨#[102,97,115,116]⟩:ByteArray),(⟨#[116,121,112]⟩:ByteArray)]:List ByteArray) y).bind fun h=>(qt n (⟨s.code,z,A⟩:qb) 20).bind fun|(c,B,C)=>(qt n (⟨s.code,B,C⟩:qb) 20).bind fun|(g,i8,D)=>(qt n (⟨s.code,i8,D⟩:qb) 60).bind fun(d,i,k)=>(qt n (⟨s.code,i,k⟩:qb) 40).bind fun(f,l,m)=>(qt n (⟨s.code,l,m⟩:qb) 30).bind fun(i16,a,b)=>bif (i16==0) then V ((⟨h,qj (800+(qj (10*c))),qj ((qj (800+(qj (10*c))))-1),qj (900+(qj (10*g))),qj ((qj (900+(qj (10*g))))+(qj (9*f)))⟩:qG),a,b) else bif (i16==1) then(qt n (⟨s.code,a,b⟩:qb) 3).bind fun(p,r,t)=>(qF ([99,100,(-1)]:List Int) p).bind fun F=>V ((⟨h,qj (800+(qj (10*c))),qj ((qj (800+(qj (10*c))))+(qj (7*d))),F,qj ((qj (900+(qj (10*g))))+(qj (9*f)))⟩:qG),r,t) else bif (i16==2) then(qt n (⟨s.code,a,b⟩:qb) 2).bind fun(u,v,x)=>V ((⟨h,qj (800+(qj (10*c))),qj ((qj (800+(qj (10*c))))+(qj (7*d))),qj (900+(qj (10*g))),qj (5000+u)⟩:qG),v,x) else bif (i16==3) then V ((⟨(⟨#[]⟩:ByteArray),qj (800+(qj (10*c))),qj ((qj (800+(qj (10*c))))+(qj (7*d))),qj (900+(qj (10*g))),qj ((qj (900+(qj (10*g))))+(qj (9*f)))⟩:qG),a,b) else V ((⟨h,qj (800+(qj (10*c))),qj ((qj (800+(qj (10*c))))+(qj (7*d))),qj (900+(qj (10*g))),qj ((qj (900+(qj (10*g))))+(qj (9*f)))⟩:qG),a,b)
theorem zH{n l w F}{s:qb}{b p1 p}(h0:SH l w (xb b s p1 p s.at_ s.seed::F))(ha1:qm.R w (Fr l F) s (ao s p1 p)){r:qG×Int×Int}(hF:ow n s=V r):wX prog 148 [vp b] w (fun us w'=>us=[oV qG (bZ r.1)]/\SH l w' (xb b s p1 p r.2.1 r.2.2::F)):=by
 have h:=Da h0 ha1;refine cp func148 Z (m:=58) Z Z (dE (qi qa h Z Z Z fun w1 c h=>O2 ?_));obtain⟨⟨i1,i2,i3⟩,S,hF⟩:=qc hF;obtain⟨R,a,hF⟩:=qc hF;obtain⟨⟨v,i5,i6⟩,o,hF⟩:=qc hF;obtain⟨⟨B,i8,i9⟩,k,hF⟩:=qc hF;refine bd (fun e w'=>∃C,e=[(0,vp b),(2,vp c),(3,vp C)]/\SH l w' [oX C [.string R,vi (qj (800+(qj (10*v)))),vi 0,vi (qj (900+(qj (10*B)))),vi 0] 36,xb b s p1 p i8 i9,oX c MF 36,xf l w F s p1 p]) ?_ ?_
 .refine qbS [15] (fun w'=>SH l w' []) Z 16 Z (bits 16 0) (by kernel_rfl) fun _ hb=>?_;have h:=h.ext hb;clear hb;refine FN (fun e w'=>∃D,e=[(0,vp b),(2,vp c),(3,vp D),(17,.agg #[.string R,vi (qj (800+(qj (10*v)))),vi 0,vi (qj (900+(qj (10*B)))),vi 0])]/\SH l w' [oX D MF 36,xb b s p1 p i8 i9,oX c MF 36,xf l w F s p1 p]) 1 (bits 16 32767) ?_ fun KM1=>?_
  .rintro _ _ ⟨D,rfl,h⟩;exact Ao 15 65535 Z (zs 0 h Z fun _ h=>bL (fun hs=>absurd (hs 15 (by decide)) (by decide)) (Ad (rG ⟨_,Z,h⟩ Z)))
  refine FN (fun e w'=>e=[(0,vp b),(2,vp c),(17,.agg #[.string R,vi (qj (800+(qj (10*v)))),vi 0,vi (qj (900+(qj (10*B)))),vi 0])]/\SH l w' [xb b s p1 p i8 i9,oX c MF 36,xf l w F s p1 p]) 2 (bits 16 16383) ?_ fun KM2=>?_
  .rintro _ _ ⟨rfl,h⟩;exact Ao 14 32767 Z (qi qa h Z Z Z fun _ _ h=>Ag (h.p [] Z) (zK [(0,_),(2,_),(3,_),(17,_)] ⟨Z,Z,Z,Z,G⟩ (KM1 _ _ ⟨_,Z,h⟩)))
  refine FN (fun e w'=>∃H,e=[(0,vp b),(2,vp c),(3,vp H),(8,.string R),(12,vi (qj (800+(qj (10*v))))),(13,vp b)]/\SH l w' [oX H MF 36,xb b s p1 p i5 i6,oX c MF 36,xf l w F s p1 p]) 5 (bits 16 17407) ?_ fun KM3=>?_
  .rintro _ _ ⟨H,rfl,h⟩;refine Ao 10 18431 Z ?_;have h:=h.p [1,0,2,3] Z;refine lZ h (h.frG 3 0 1 Z Z Z) k Z Z Z fun _ h=>G0 24575 [11,12] (h.p [] Z) Z (Aw 13 32767 (fun w' hw=>qC qa [0,1,3] [.tmp 8,.tmp 12,.tmp 16] z8) (h.p [] Z) Z ?_);have h:=h.p [1,0,2,3] Z;exact aK KM1 ⟨_,Z,h⟩ Z
  refine FN (fun e w'=>∃I,e=[(0,vp b),(2,vp c),(3,vp I),(6,vi i1),(12,vi (qj (800+(qj (10*v))))),(16,vi (qj (900+(qj (10*B)))))]/\SH l w' [oX I MF 36,xb b s p1 p i8 i9,oX c MF 36,xf l w F s p1 p]) 5 (bits 16 24550) ?_ fun KM4=>?_
  .rintro _ _ ⟨I,rfl,h⟩;refine Ao 0 24551 Z (qv qa [.const (.string AW),.const (.string UG),.const (.string AX)] _ ([AW,UG,AX]:List ByteArray) h z9 ⟨Z,Z,Z,G⟩ Z fun _ _ _ h=>Ag (h.p [] Z) ?_);have X:=bH a;obtain⟨_,o_17,_,_,b4,b5,-,hr20,_⟩:=(h.sl 0 Z).1.at a;obtain rfl:=hr20;refine Ax 3 24559 b4 b5 ⟨X.1,qD X.2.1 (h.sl 0 Z).2⟩ (h.p [] Z) Z (Ao 4 24575 Z (dK (cR qa (qQ (w1:=w) (S1:=fun _=>False) h 0 Z a b4 b5 Z) (j:=0) Z Z Z) Z (Ag (h.p [] Z) (Aw 13 32767 (fun w' hw=>qC qa [0,1,3] [.tmp 8,.tmp 12,.tmp 16] z8) (h.p [] Z) Z ?_))));have h:=h.p [1,2,3,4] Z;exact aK KM1 ⟨_,Z,h⟩ Z
  refine FN (fun e w'=>e=[(0,vp b),(2,vp c),(8,.string R),(12,vi (qj (800+(qj (10*v))))),(13,vp b)]/\SH l w' [xb b s p1 p i5 i6,oX c MF 36,xf l w F s p1 p]) 6 (bits 16 1023) ?_ fun KM5=>?_
  .rintro _ _ ⟨rfl,h⟩;refine At 10 14 2047 17407 Z ?_ ?_
   .refine lZ h (h.frG 2 0 1 Z Z Z) k Z Z Z fun _ h=>G0 8191 [11,12] (h.p [] Z) Z (Aw 13 16383 (fun w' hw=>qC qa [0,1,3] [.tmp 8,.tmp 12,.tmp 16] z8) (h.p [] Z) Z ?_);exact aK KM2 ⟨Z,h⟩ Z
   exact qi qa h Z Z Z fun _ _ h=>Ag (h.p [] Z) (zK [(0,_),(2,_),(3,_),(8,_),(12,_),(13,_)] ⟨Z,Z,Z,Z,Z,Z,G⟩ (KM3 _ _ ⟨_,Z,h⟩))
  refine FN (fun e w'=>∃J,e=[(0,vp b),(2,vp c),(3,vp J),(8,.string R),(9,vp b),(13,vp b)]/\SH l w' [oX J MF 36,xb b s p1 p i2 i3,oX c MF 36,xf l w F s p1 p]) 8 (bits 16 16959) ?_ fun KM6=>?_
  .rintro _ _ ⟨J,rfl,h⟩;refine Ao 6 17023 Z ?_;have h:=h.p [1,0,2,3] Z;refine lZ h (h.frG 3 0 1 Z Z Z) o Z Z Z fun _ h=>G0 17407 [7,8] (h.p [] Z) Z ?_;have h:=h.p [1,0,2,3] Z;exact aK KM3 ⟨_,Z,h⟩ Z
  refine FN (fun e w'=>∃K,e=[(0,vp b),(2,vp c),(3,vp K),(6,vi i1),(12,vi (qj (800+(qj (10*v))))),(13,vp b)]/\SH l w' [oX K MF 36,xb b s p1 p i5 i6,oX c MF 36,xf l w F s p1 p]) 8 (bits 16 17382) ?_ fun KM7=>?_
  .rintro _ _ ⟨K,rfl,h⟩;refine At 0 10 17383 18406 Z ?_ ?_
   .refine qv qa [.const (.string AW),.const (.string UG),.const (.string AX)] _ ([AW,UG,AX]:List ByteArray) h z9 ⟨Z,Z,Z,G⟩ Z fun _ _ _ h=>Ag (h.p [] Z) ?_;have Y:=bH a;obtain⟨_,o_18,_,_,N,P,-,hr21,_⟩:=(h.sl 0 Z).1.at a;obtain rfl:=hr21;refine Ax 3 17391 N P ⟨Y.1,qD Y.2.1 (h.sl 0 Z).2⟩ (h.p [] Z) Z (At 4 10 17407 18415 Z ?_ ?_)
    .refine dK (cR qa (qQ (w1:=w) (S1:=fun _=>False) h 0 Z a N P Z) (j:=0) Z Z Z) Z (Ag (h.p [] Z) ?_);have h:=h.p [1,2,3,4] Z;exact aK KM3 ⟨_,Z,h⟩ Z
    have h:=h.p [2,0,1,3,4] Z;refine lZ h (h.frG 4 0 1 Z Z Z) k Z Z Z fun _ h=>G0 24559 [11,12] (h.p [] Z) Z (Ao 4 24575 Z (dK (cR qa (qQ (w1:=w) (S1:=fun _=>False) h 1 Z a N P Z) (j:=0) Z Z Z) Z (Ag (h.p [] Z) (Aw 13 32767 (fun w' hw=>qC qa [0,1,3] [.tmp 8,.tmp 12,.tmp 16] z8) (h.p [] Z) Z ?_))));have h:=h.p [2,0,3,4] Z;exact aK KM1 ⟨_,Z,h⟩ Z
   have h:=h.p [1,0,2,3] Z;refine lZ h (h.frG 3 0 1 Z Z Z) k Z Z Z fun _ h=>G0 24550 [11,12] (h.p [] Z) Z ?_;have h:=h.p [1,0,2,3] Z;exact aK KM4 ⟨_,Z,h⟩ Z
  refine FN (fun e w'=>∃L S18 b6,e=[(0,vp b),(2,vp c),(3,vp L),(4,oS b6 3 3),(5,vp b),(9,vp b),(13,vp b)]/\SH l w' [oX L MF 36,oW S18 (([AW,UG,AX]:List ByteArray):List ByteArray) [oS b6 3 3],oX c MF 36,xb b s p1 p s.at_ s.seed,xf l w F s p1 p]) 11 (bits 16 16931) ?_ fun KM8=>?_
  .rintro _ _ ⟨L,S18,b6,rfl,h⟩;refine Ao 2 16935 Z ?_;have h:=h.p [3,0,1,2,4] Z;refine lZ h (h.frG 4 0 1 Z Z Z) S Z Z Z fun _ h=>Ag (h.p [] Z) ?_;have a3:=bH a;obtain⟨_,o_19,_,_,x,z,-,hr22,_⟩:=(h.sl 2 Z).1.at a;obtain rfl:=hr22;refine Ax 3 16943 x z ⟨a3.1,qD a3.2.1 (h.sl 2 Z).2⟩ (h.p [] Z) Z (At 4 6 16959 17007 Z ?_ ?_)
   .refine dK (cR qa (qQ (w1:=w) (S1:=fun _=>False) h 2 Z a x z Z) (j:=0) Z Z Z) Z (Ag (h.p [] Z) ?_);have h:=h.p [1,0,3,4] Z;exact aK KM6 ⟨_,Z,h⟩ Z
   refine lZ h (h.frG 4 0 1 Z Z Z) o Z Z Z fun _ h=>G0 17391 [7,8] (h.p [] Z) Z (At 4 10 17407 18415 Z ?_ ?_)
   .refine dK (cR qa (qQ (w1:=w) (S1:=fun _=>False) h 2 Z a x z Z) (j:=0) Z Z Z) Z (Ag (h.p [] Z) ?_);have h:=h.p [1,0,3,4] Z;exact aK KM3 ⟨_,Z,h⟩ Z
   refine lZ h (h.frG 4 0 1 Z Z Z) k Z Z Z fun _ h=>G0 24559 [11,12] (h.p [] Z) Z (Ao 4 24575 Z (dK (cR qa (qQ (w1:=w) (S1:=fun _=>False) h 2 Z a x z Z) (j:=0) Z Z Z) Z (Ag (h.p [] Z) (Aw 13 32767 (fun w' hw=>qC qa [0,1,3] [.tmp 8,.tmp 12,.tmp 16] z8) (h.p [] Z) Z ?_))));have h:=h.p [1,0,3,4] Z;exact aK KM1 ⟨_,Z,h⟩ Z
  refine FN (fun e w'=>∃M,e=[(0,vp b),(2,vp c),(3,vp M),(6,vi i1),(9,vp b),(13,vp b)]/\SH l w' [oX M MF 36,xb b s p1 p i2 i3,oX c MF 36,xf l w F s p1 p]) 11 (bits 16 16934) ?_ fun KM9=>?_
  .rintro _ _ ⟨M,rfl,h⟩;refine At 0 6 16935 16998 Z ?_ ?_
   .refine qv qa [.const (.string AW),.const (.string UG),.const (.string AX)] _ ([AW,UG,AX]:List ByteArray) h z9 ⟨Z,Z,Z,G⟩ Z fun _ _ _ h=>Ag (h.p [] Z) ?_;have a4:=bH a;obtain⟨_,o_20,_,_,y,A,-,hr23,_⟩:=(h.sl 0 Z).1.at a;obtain rfl:=hr23;refine Ax 3 16943 y A ⟨a4.1,qD a4.2.1 (h.sl 0 Z).2⟩ (h.p [] Z) Z (At 4 6 16959 17007 Z ?_ ?_)
    .refine dK (cR qa (qQ (w1:=w) (S1:=fun _=>False) h 0 Z a y A Z) (j:=0) Z Z Z) Z (Ag (h.p [] Z) ?_);have h:=h.p [1,2,3,4] Z;exact aK KM6 ⟨_,Z,h⟩ Z
    have h:=h.p [2,0,1,3,4] Z;refine lZ h (h.frG 4 0 1 Z Z Z) o Z Z Z fun _ h=>G0 17391 [7,8] (h.p [] Z) Z (At 4 10 17407 18415 Z ?_ ?_)
    .refine dK (cR qa (qQ (w1:=w) (S1:=fun _=>False) h 1 Z a y A Z) (j:=0) Z Z Z) Z (Ag (h.p [] Z) ?_);have h:=h.p [2,0,3,4] Z;exact aK KM3 ⟨_,Z,h⟩ Z
    refine lZ h (h.frG 4 0 1 Z Z Z) k Z Z Z fun _ h=>G0 24559 [11,12] (h.p [] Z) Z (Ao 4 24575 Z (dK (cR qa (qQ (w1:=w) (S1:=fun _=>False) h 1 Z a y A Z) (j:=0) Z Z Z) Z (Ag (h.p [] Z) (Aw 13 32767 (fun w' hw=>qC qa [0,1,3] [.tmp 8,.tmp 12,.tmp 16] z8) (h.p [] Z) Z ?_))));have h:=h.p [2,0,3,4] Z;exact aK KM1 ⟨_,Z,h⟩ Z
   have h:=h.p [1,0,2,3] Z;refine lZ h (h.frG 3 0 1 Z Z Z) o Z Z Z fun _ h=>G0 17382 [7,8] (h.p [] Z) Z ?_;have h:=h.p [1,0,2,3] Z;exact aK KM7 ⟨_,Z,h⟩ Z
  refine M0 546 [1,5,9] (h.p [] Z) Z (pS 0 2 14 Z Z Z (bits 16 547) (bits 16 550) (bits 16 16930) (by kernel_rfl) (by kernel_rfl) (by kernel_rfl)  (by kernel_rfl) ?_ ?_ ?_)
  .refine qv qa [.const (.string AW),.const (.string UG),.const (.string AX)] _ ([AW,UG,AX]:List ByteArray) h z9 ⟨Z,Z,Z,G⟩ Z fun _ _ _ h=>Ag (h.p [] Z) (At 2 14 551 16931 Z ?_ ?_)
   .have h:=h.p [2,0,1,3] Z;refine lZ h (h.frG 3 0 1 Z Z Z) S Z Z Z fun _ h=>Ag (h.p [] Z) ?_;have a5:=bH a;obtain⟨_,o_21,_,_,d,g,-,hr24,_⟩:=(h.sl 1 Z).1.at a;obtain rfl:=hr24;refine Ax 3 559 d g ⟨a5.1,qD a5.2.1 (h.sl 1 Z).2⟩ (h.p [] Z) Z (pS 4 6 14 Z Z Z (bits 16 575) (bits 16 623) (bits 16 16943) (by kernel_rfl) (by kernel_rfl) (by kernel_rfl)  (by kernel_rfl) ?_ ?_ ?_)
    .refine dK (cR qa (qQ (w1:=w) (S1:=fun _=>False) h 1 Z a d g Z) (j:=0) Z Z Z) Z (Ag (h.p [] Z) (At 6 14 639 16959 Z ?_ ?_))
     .refine lZ h (h.frG 3 0 1 Z Z Z) o Z Z Z fun _ h=>G0 1023 [7,8] (h.p [] Z) Z ?_;have h:=h.p [0,2,3] Z;exact aK KM5 ⟨Z,h⟩ Z
     refine qi qa h Z Z Z fun _ _ h=>Ag (h.p [] Z) ?_;have h:=h.p [0,1,3,4] Z;exact aK KM6 ⟨_,Z,h⟩ Z
    .refine lZ h (h.frG 3 0 1 Z Z Z) o Z Z Z fun _ h=>G0 1007 [7,8] (h.p [] Z) Z (pS 4 10 14 Z Z Z (bits 16 1023) (bits 16 2031) (bits 16 17391) (by kernel_rfl) (by kernel_rfl) (by kernel_rfl)  (by kernel_rfl) ?_ ?_ ?_)
     .refine dK (cR qa (qQ (w1:=w) (S1:=fun _=>False) h 1 Z a d g Z) (j:=0) Z Z Z) Z (Ag (h.p [] Z) ?_);have h:=h.p [0,2,3] Z;exact aK KM5 ⟨Z,h⟩ Z
     .refine lZ h (h.frG 3 0 1 Z Z Z) k Z Z Z fun _ h=>G0 8175 [11,12] (h.p [] Z) Z (At 4 14 8191 24559 Z ?_ ?_)
      .refine dK (cR qa (qQ (w1:=w) (S1:=fun _=>False) h 1 Z a d g Z) (j:=0) Z Z Z) Z (Ag (h.p [] Z) (Aw 13 16383 (fun w' hw=>qC qa [0,1,3] [.tmp 8,.tmp 12,.tmp 16] z8) (h.p [] Z) Z ?_));have h:=h.p [0,2,3] Z;exact aK KM2 ⟨Z,h⟩ Z
      refine qi qa h Z Z Z fun _ _ h=>Ag (h.p [] Z) (Ao 4 24575 Z (dK (cR qa (qQ (w1:=w) (S1:=fun _=>False) h 2 Z a d g Z) (j:=0) Z Z Z) Z (Ag (h.p [] Z) (Aw 13 32767 (fun w' hw=>qC qa [0,1,3] [.tmp 8,.tmp 12,.tmp 16] z8) (h.p [] Z) Z ?_))));have h:=h.p [0,1,3,4] Z;exact aK KM1 ⟨_,Z,h⟩ Z
     refine qi qa h Z Z Z fun _ _ h=>Ag (h.p [] Z) (At 4 10 17407 18415 Z ?_ ?_)
     .refine dK (cR qa (qQ (w1:=w) (S1:=fun _=>False) h 2 Z a d g Z) (j:=0) Z Z Z) Z (Ag (h.p [] Z) ?_);have h:=h.p [0,1,3,4] Z;exact aK KM3 ⟨_,Z,h⟩ Z
     have h:=h.p [1,0,2,3,4] Z;refine lZ h (h.frG 4 0 1 Z Z Z) k Z Z Z fun _ h=>G0 24559 [11,12] (h.p [] Z) Z (Ao 4 24575 Z (dK (cR qa (qQ (w1:=w) (S1:=fun _=>False) h 2 Z a d g Z) (j:=0) Z Z Z) Z (Ag (h.p [] Z) (Aw 13 32767 (fun w' hw=>qC qa [0,1,3] [.tmp 8,.tmp 12,.tmp 16] z8) (h.p [] Z) Z ?_))));have h:=h.p [1,0,3,4] Z;exact aK KM1 ⟨_,Z,h⟩ Z
    refine qi qa h Z Z Z fun _ _ h=>Ag (h.p [] Z) (At 4 6 16959 17007 Z ?_ ?_)
    .refine dK (cR qa (qQ (w1:=w) (S1:=fun _=>False) h 2 Z a d g Z) (j:=0) Z Z Z) Z (Ag (h.p [] Z) ?_);have h:=h.p [0,1,3,4] Z;exact aK KM6 ⟨_,Z,h⟩ Z
    have h:=h.p [1,0,2,3,4] Z;refine lZ h (h.frG 4 0 1 Z Z Z) o Z Z Z fun _ h=>G0 17391 [7,8] (h.p [] Z) Z (At 4 10 17407 18415 Z ?_ ?_)
    .refine dK (cR qa (qQ (w1:=w) (S1:=fun _=>False) h 2 Z a d g Z) (j:=0) Z Z Z) Z (Ag (h.p [] Z) ?_);have h:=h.p [1,0,3,4] Z;exact aK KM3 ⟨_,Z,h⟩ Z
    refine lZ h (h.frG 4 0 1 Z Z Z) k Z Z Z fun _ h=>G0 24559 [11,12] (h.p [] Z) Z (Ao 4 24575 Z (dK (cR qa (qQ (w1:=w) (S1:=fun _=>False) h 2 Z a d g Z) (j:=0) Z Z Z) Z (Ag (h.p [] Z) (Aw 13 32767 (fun w' hw=>qC qa [0,1,3] [.tmp 8,.tmp 12,.tmp 16] z8) (h.p [] Z) Z ?_))));have h:=h.p [1,0,3,4] Z;exact aK KM1 ⟨_,Z,h⟩ Z
   exact qi qa h Z Z Z fun _ _ h=>Ag (h.p [] Z) (zK [(0,_),(2,_),(3,_),(4,_),(5,_),(9,_),(13,_)] ⟨Z,Z,Z,Z,Z,Z,Z,G⟩ (KM8 _ _ ⟨_,_,_,Z,h⟩))
  .have h:=h.p [1,0,2] Z;refine lZ h (h.frG 2 0 1 Z Z Z) S Z Z Z fun _ h=>Ag (h.p [] Z) (pS 0 6 14 Z Z Z (bits 16 551) (bits 16 614) (bits 16 16934) (by kernel_rfl) (by kernel_rfl) (by kernel_rfl)  (by kernel_rfl) ?_ ?_ ?_)
   .refine qv qa [.const (.string AW),.const (.string UG),.const (.string AX)] _ ([AW,UG,AX]:List ByteArray) h z9 ⟨Z,Z,Z,G⟩ Z fun _ _ _ h=>Ag (h.p [] Z) ?_;have a6:=bH a;obtain⟨_,o_22,_,_,f,i,-,hr25,_⟩:=(h.sl 0 Z).1.at a;obtain rfl:=hr25;refine Ax 3 559 f i ⟨a6.1,qD a6.2.1 (h.sl 0 Z).2⟩ (h.p [] Z) Z (pS 4 6 14 Z Z Z (bits 16 575) (bits 16 623) (bits 16 16943) (by kernel_rfl) (by kernel_rfl) (by kernel_rfl)  (by kernel_rfl) ?_ ?_ ?_)
    .refine dK (cR qa (qQ (w1:=w) (S1:=fun _=>False) h 0 Z a f i Z) (j:=0) Z Z Z) Z (Ag (h.p [] Z) (At 6 14 639 16959 Z ?_ ?_))
     .have h:=h.p [1,0,2,3] Z;refine lZ h (h.frG 3 0 1 Z Z Z) o Z Z Z fun _ h=>G0 1023 [7,8] (h.p [] Z) Z ?_;have h:=h.p [0,2,3] Z;exact aK KM5 ⟨Z,h⟩ Z
     refine qi qa h Z Z Z fun _ _ h=>Ag (h.p [] Z) ?_;have h:=h.p [0,2,3,4] Z;exact aK KM6 ⟨_,Z,h⟩ Z
    .have h:=h.p [1,0,2,3] Z;refine lZ h (h.frG 3 0 1 Z Z Z) o Z Z Z fun _ h=>G0 1007 [7,8] (h.p [] Z) Z (pS 4 10 14 Z Z Z (bits 16 1023) (bits 16 2031) (bits 16 17391) (by kernel_rfl) (by kernel_rfl) (by kernel_rfl)  (by kernel_rfl) ?_ ?_ ?_)
     .refine dK (cR qa (qQ (w1:=w) (S1:=fun _=>False) h 1 Z a f i Z) (j:=0) Z Z Z) Z (Ag (h.p [] Z) ?_);have h:=h.p [0,2,3] Z;exact aK KM5 ⟨Z,h⟩ Z
     .refine lZ h (h.frG 3 0 1 Z Z Z) k Z Z Z fun _ h=>G0 8175 [11,12] (h.p [] Z) Z (At 4 14 8191 24559 Z ?_ ?_)
      .refine dK (cR qa (qQ (w1:=w) (S1:=fun _=>False) h 1 Z a f i Z) (j:=0) Z Z Z) Z (Ag (h.p [] Z) (Aw 13 16383 (fun w' hw=>qC qa [0,1,3] [.tmp 8,.tmp 12,.tmp 16] z8) (h.p [] Z) Z ?_));have h:=h.p [0,2,3] Z;exact aK KM2 ⟨Z,h⟩ Z
      refine qi qa h Z Z Z fun _ _ h=>Ag (h.p [] Z) (Ao 4 24575 Z (dK (cR qa (qQ (w1:=w) (S1:=fun _=>False) h 2 Z a f i Z) (j:=0) Z Z Z) Z (Ag (h.p [] Z) (Aw 13 32767 (fun w' hw=>qC qa [0,1,3] [.tmp 8,.tmp 12,.tmp 16] z8) (h.p [] Z) Z ?_))));have h:=h.p [0,1,3,4] Z;exact aK KM1 ⟨_,Z,h⟩ Z
     refine qi qa h Z Z Z fun _ _ h=>Ag (h.p [] Z) (At 4 10 17407 18415 Z ?_ ?_)
     .refine dK (cR qa (qQ (w1:=w) (S1:=fun _=>False) h 2 Z a f i Z) (j:=0) Z Z Z) Z (Ag (h.p [] Z) ?_);have h:=h.p [0,1,3,4] Z;exact aK KM3 ⟨_,Z,h⟩ Z
     have h:=h.p [1,0,2,3,4] Z;refine lZ h (h.frG 4 0 1 Z Z Z) k Z Z Z fun _ h=>G0 24559 [11,12] (h.p [] Z) Z (Ao 4 24575 Z (dK (cR qa (qQ (w1:=w) (S1:=fun _=>False) h 2 Z a f i Z) (j:=0) Z Z Z) Z (Ag (h.p [] Z) (Aw 13 32767 (fun w' hw=>qC qa [0,1,3] [.tmp 8,.tmp 12,.tmp 16] z8) (h.p [] Z) Z ?_))));have h:=h.p [1,0,3,4] Z;exact aK KM1 ⟨_,Z,h⟩ Z
    refine qi qa h Z Z Z fun _ _ h=>Ag (h.p [] Z) (At 4 6 16959 17007 Z ?_ ?_)
    .refine dK (cR qa (qQ (w1:=w) (S1:=fun _=>False) h 1 Z a f i Z) (j:=0) Z Z Z) Z (Ag (h.p [] Z) ?_);have h:=h.p [0,2,3,4] Z;exact aK KM6 ⟨_,Z,h⟩ Z
    have h:=h.p [2,0,1,3,4] Z;refine lZ h (h.frG 4 0 1 Z Z Z) o Z Z Z fun _ h=>G0 17391 [7,8] (h.p [] Z) Z (At 4 10 17407 18415 Z ?_ ?_)
    .refine dK (cR qa (qQ (w1:=w) (S1:=fun _=>False) h 2 Z a f i Z) (j:=0) Z Z Z) Z (Ag (h.p [] Z) ?_);have h:=h.p [1,0,3,4] Z;exact aK KM3 ⟨_,Z,h⟩ Z
    refine lZ h (h.frG 4 0 1 Z Z Z) k Z Z Z fun _ h=>G0 24559 [11,12] (h.p [] Z) Z (Ao 4 24575 Z (dK (cR qa (qQ (w1:=w) (S1:=fun _=>False) h 2 Z a f i Z) (j:=0) Z Z Z) Z (Ag (h.p [] Z) (Aw 13 32767 (fun w' hw=>qC qa [0,1,3] [.tmp 8,.tmp 12,.tmp 16] z8) (h.p [] Z) Z ?_))));have h:=h.p [1,0,3,4] Z;exact aK KM1 ⟨_,Z,h⟩ Z
   .refine lZ h (h.frG 2 0 1 Z Z Z) o Z Z Z fun _ h=>G0 998 [7,8] (h.p [] Z) Z (pS 0 10 14 Z Z Z (bits 16 999) (bits 16 2022) (bits 16 17382) (by kernel_rfl) (by kernel_rfl) (by kernel_rfl)  (by kernel_rfl) ?_ ?_ ?_)
    .refine qv qa [.const (.string AW),.const (.string UG),.const (.string AX)] _ ([AW,UG,AX]:List ByteArray) h z9 ⟨Z,Z,Z,G⟩ Z fun _ _ _ h=>Ag (h.p [] Z) ?_;have a7:=bH a;obtain⟨_,o_23,_,_,t,u,-,hr26,_⟩:=(h.sl 0 Z).1.at a;obtain rfl:=hr26;refine Ax 3 1007 t u ⟨a7.1,qD a7.2.1 (h.sl 0 Z).2⟩ (h.p [] Z) Z (pS 4 10 14 Z Z Z (bits 16 1023) (bits 16 2031) (bits 16 17391) (by kernel_rfl) (by kernel_rfl) (by kernel_rfl)  (by kernel_rfl) ?_ ?_ ?_)
     .refine dK (cR qa (qQ (w1:=w) (S1:=fun _=>False) h 0 Z a t u Z) (j:=0) Z Z Z) Z (Ag (h.p [] Z) ?_);have h:=h.p [1,2,3] Z;exact aK KM5 ⟨Z,h⟩ Z
     .have h:=h.p [1,0,2,3] Z;refine lZ h (h.frG 3 0 1 Z Z Z) k Z Z Z fun _ h=>G0 8175 [11,12] (h.p [] Z) Z (At 4 14 8191 24559 Z ?_ ?_)
      .refine dK (cR qa (qQ (w1:=w) (S1:=fun _=>False) h 1 Z a t u Z) (j:=0) Z Z Z) Z (Ag (h.p [] Z) (Aw 13 16383 (fun w' hw=>qC qa [0,1,3] [.tmp 8,.tmp 12,.tmp 16] z8) (h.p [] Z) Z ?_));have h:=h.p [0,2,3] Z;exact aK KM2 ⟨Z,h⟩ Z
      refine qi qa h Z Z Z fun _ _ h=>Ag (h.p [] Z) (Ao 4 24575 Z (dK (cR qa (qQ (w1:=w) (S1:=fun _=>False) h 2 Z a t u Z) (j:=0) Z Z Z) Z (Ag (h.p [] Z) (Aw 13 32767 (fun w' hw=>qC qa [0,1,3] [.tmp 8,.tmp 12,.tmp 16] z8) (h.p [] Z) Z ?_))));have h:=h.p [0,1,3,4] Z;exact aK KM1 ⟨_,Z,h⟩ Z
     refine qi qa h Z Z Z fun _ _ h=>Ag (h.p [] Z) (At 4 10 17407 18415 Z ?_ ?_)
     .refine dK (cR qa (qQ (w1:=w) (S1:=fun _=>False) h 1 Z a t u Z) (j:=0) Z Z Z) Z (Ag (h.p [] Z) ?_);have h:=h.p [0,2,3,4] Z;exact aK KM3 ⟨_,Z,h⟩ Z
     have h:=h.p [2,0,1,3,4] Z;refine lZ h (h.frG 4 0 1 Z Z Z) k Z Z Z fun _ h=>G0 24559 [11,12] (h.p [] Z) Z (Ao 4 24575 Z (dK (cR qa (qQ (w1:=w) (S1:=fun _=>False) h 2 Z a t u Z) (j:=0) Z Z Z) Z (Ag (h.p [] Z) (Aw 13 32767 (fun w' hw=>qC qa [0,1,3] [.tmp 8,.tmp 12,.tmp 16] z8) (h.p [] Z) Z ?_))));have h:=h.p [1,0,3,4] Z;exact aK KM1 ⟨_,Z,h⟩ Z
    .refine lZ h (h.frG 2 0 1 Z Z Z) k Z Z Z fun _ h=>G0 8166 [11,12] (h.p [] Z) Z (At 0 14 8167 24550 Z ?_ ?_)
     .refine qv qa [.const (.string AW),.const (.string UG),.const (.string AX)] _ ([AW,UG,AX]:List ByteArray) h z9 ⟨Z,Z,Z,G⟩ Z fun _ _ _ h=>Ag (h.p [] Z) ?_;have a8:=bH a;obtain⟨_,o_24,_,_,O,Q,-,hr27,_⟩:=(h.sl 0 Z).1.at a;obtain rfl:=hr27;refine Ax 3 8175 O Q ⟨a8.1,qD a8.2.1 (h.sl 0 Z).2⟩ (h.p [] Z) Z (At 4 14 8191 24559 Z ?_ ?_)
      .refine dK (cR qa (qQ (w1:=w) (S1:=fun _=>False) h 0 Z a O Q Z) (j:=0) Z Z Z) Z (Ag (h.p [] Z) (Aw 13 16383 (fun w' hw=>qC qa [0,1,3] [.tmp 8,.tmp 12,.tmp 16] z8) (h.p [] Z) Z ?_));have h:=h.p [1,2,3] Z;exact aK KM2 ⟨Z,h⟩ Z
      refine qi qa h Z Z Z fun _ _ h=>Ag (h.p [] Z) (Ao 4 24575 Z (dK (cR qa (qQ (w1:=w) (S1:=fun _=>False) h 1 Z a O Q Z) (j:=0) Z Z Z) Z (Ag (h.p [] Z) (Aw 13 32767 (fun w' hw=>qC qa [0,1,3] [.tmp 8,.tmp 12,.tmp 16] z8) (h.p [] Z) Z ?_))));have h:=h.p [0,2,3,4] Z;exact aK KM1 ⟨_,Z,h⟩ Z
     exact qi qa h Z Z Z fun _ _ h=>Ag (h.p [] Z) (zK [(0,_),(2,_),(3,_),(6,_),(12,_),(16,_)] ⟨Z,Z,Z,Z,Z,Z,G⟩ (KM4 _ _ ⟨_,Z,h⟩))
    exact qi qa h Z Z Z fun _ _ h=>Ag (h.p [] Z) (zK [(0,_),(2,_),(3,_),(6,_),(12,_),(13,_)] ⟨Z,Z,Z,Z,Z,Z,G⟩ (KM7 _ _ ⟨_,Z,h⟩))
   exact qi qa h Z Z Z fun _ _ h=>Ag (h.p [] Z) (zK [(0,_),(2,_),(3,_),(6,_),(9,_),(13,_)] ⟨Z,Z,Z,Z,Z,Z,G⟩ (KM9 _ _ ⟨_,Z,h⟩))
  refine qi qa h Z Z Z fun _ _ h=>Ag (h.p [] Z) (At 0 2 16931 16934 Z ?_ ?_)
  .refine qv qa [.const (.string AW),.const (.string UG),.const (.string AX)] _ ([AW,UG,AX]:List ByteArray) h z9 ⟨Z,Z,Z,G⟩ Z fun _ _ _ h=>Ag (h.p [] Z) ?_;have h:=h.p [1,0,2,3,4] Z;exact aK KM8 ⟨_,_,_,Z,h⟩ Z
  have h:=h.p [2,0,1,3] Z;refine lZ h (h.frG 3 0 1 Z Z Z) S Z Z Z fun _ h=>Ag (h.p [] Z) ?_;have h:=h.p [1,0,2,3] Z;exact aK KM9 ⟨_,Z,h⟩ Z
 rintro _ _ ⟨C,rfl,h⟩;refine au (rA [7] [0] h Z fun _ h=>M1 7 [0,1,2] 0 (h.p [0] Z) Z (Ao 3 15 Z ?_));have h:=h.p [1,0,2,3] Z;obtain⟨⟨T,_,_⟩,hr28,hF⟩:=qc hF;refine lZ h (h.frG 3 0 1 Z Z Z) hr28 Z Z Z fun _ h=>G0 127 [4,5,6] (h.p [1] Z) Z (Ao 7 255 Z (zs 1 h Z fun _ h=>bL (fun hs=>absurd (hs 7 (by decide)) (by decide)) (Ad (au (rA [7] [1] h Z fun _ h=>M1 7 [0,1,2] 0 (h.p [1] Z) Z (Ao 3 15 Z ?_))))));obtain⟨⟨W,_,_⟩,hr29,hF⟩:=qc hF;refine lZ h (h.frG 3 0 1 Z Z Z) hr29 Z Z Z fun _ h=>G0 127 [4,5,6] (h.p [1] Z) Z (Ao 7 255 Z (zs 1 h Z fun _ h=>bL (fun hs=>absurd (hs 7 (by decide)) (by decide)) (Ad (X0 4 Z ?_))));obtain⟨⟨_,_,_⟩,hr30,hF⟩:=qc hF;refine lZ h (h.frG 3 0 1 Z Z Z) hr30 Z Z Z fun _ h=>X0 7 Z (qp Z hF ?_ ?_)<;>intro hF
 .refine X1 5 1 h Z (zs 1 h Z fun _ h=>X1 5 1 h Z (zs 2 h Z fun _ h=>ac ?_));have hk1:=h;obtain rfl:=qe hF;have h:=h.p [0,3] Z;exact bX qa [oV qG [.string R,vi (qj (800+(qj (10*v)))),vi (qj ((qj (800+(qj (10*v))))-1)),vi (qj (900+(qj (10*B)))),vi (qj ((qj (900+(qj (10*B))))+(qj (9*W))))]] ⟨⟨_,_,_,Z,Z,hk1.box 2 Z,Z⟩,G⟩ ⟨Z,Cv 1 1 h0 h Z Z⟩
 refine X0 5 Z (qp Z hF ?_ ?_)<;>intro hF
 .refine ae (qv qa [.const (vi (99)),.const (vi (100)),.const (vi (-1))] _ ([99,100,(-1)]:List Int) h z9 ⟨Z,Z,Z,G⟩ Z fun _ _ _ h=>cq Z ?_);have h:=h.p [1,0,2,3,4] Z;obtain⟨⟨_,_,_⟩,hr31,hF⟩:=qc hF;refine lZ h (h.frG 4 0 1 Z Z Z) hr31 Z Z Z fun _ h=>?_;obtain⟨y2,_,hF,a9,_,_,_,_,hp25,hq25,rfl,hc27⟩:=(h.sl 1 Z).1.ix hF;refine zx hp25 hq25 ⟨a9.1,qD a9.2.1 (h.sl 1 Z).2⟩ Z (zc 0 hc27 Z (cq Z (zs 2 h Z fun _ h=>X1 5 2 h Z (zs 3 h Z fun _ h=>ac ?_))));have hk2:=h;obtain rfl:=qe hF;have h:=h.p [0,4] Z;exact bX qa [oV qG [.string R,vi (qj (800+(qj (10*v)))),vi (qj ((qj (800+(qj (10*v))))+(qj (7*T)))),vi y2,vi (qj ((qj (900+(qj (10*B))))+(qj (9*W))))]] ⟨⟨_,_,_,Z,Z,hk2.box 3 Z,Z⟩,G⟩ ⟨Z,Cv 1 1 h0 h Z Z⟩
 refine X0 5 Z (qp Z hF ?_ ?_)<;>intro hF
 .refine X0 2 Z ?_;obtain⟨⟨i22,_,_⟩,hr33,hF⟩:=qc hF;refine lZ h (h.frG 3 0 1 Z Z Z) hr33 Z Z Z fun _ h=>lY Z (zs 1 h Z fun _ h=>X1 5 1 h Z (zs 2 h Z fun _ h=>ac ?_));have hk3:=h;obtain rfl:=qe hF;have h:=h.p [0,3] Z;exact bX qa [oV qG [.string R,vi (qj (800+(qj (10*v)))),vi (qj ((qj (800+(qj (10*v))))+(qj (7*T)))),vi (qj (900+(qj (10*B)))),vi (qj (5000+i22))]] ⟨⟨_,_,_,Z,Z,hk3.box 2 Z,Z⟩,G⟩ ⟨Z,Cv 1 1 h0 h Z Z⟩
 refine X0 5 Z (qp Z hF ?_ ?_)<;>intro hF
 .refine X0 2 Z (zs 1 h Z fun _ h=>X1 5 1 h Z (zs 2 h Z fun _ h=>ac ?_));have hk4:=h;obtain rfl:=qe hF;have h:=h.p [0,3] Z;exact bX qa [oV qG [.string (⟨#[]⟩:ByteArray),vi (qj (800+(qj (10*v)))),vi (qj ((qj (800+(qj (10*v))))+(qj (7*T)))),vi (qj (900+(qj (10*B)))),vi (qj ((qj (900+(qj (10*B))))+(qj (9*W))))]] ⟨⟨_,_,_,Z,Z,hk4.box 2 Z,Z⟩,G⟩ ⟨Z,Cv 1 1 h0 h Z Z⟩
 refine X1 5 1 h Z (zs 2 h Z fun _ h=>ac ?_);have hk5:=h;obtain rfl:=qe hF;have h:=h.p [0,3] Z;exact bX qa [oV qG [.string R,vi (qj (800+(qj (10*v)))),vi (qj ((qj (800+(qj (10*v))))+(qj (7*T)))),vi (qj (900+(qj (10*B)))),vi (qj ((qj (900+(qj (10*B))))+(qj (9*W))))]] ⟨⟨_,_,_,Z,Z,hk5.box 2 Z,Z⟩,G⟩ ⟨Z,Cv 1 1 h0 h Z Z⟩
def iz(links:List qw)(live:List Bool)(m:Bool):Nat->(List Bool)->Bool->Int->Option ((List Bool)×Bool×Int)|0,_,_,_=>U|n+1,b,b3,a=>bif decide (a<(links.length:Int)) then(qF links a).bind fun d=>(qF links a).bind fun f=>(bif (!m) then V (f.To,d.Bk) else V (d.Bk,f.To)).bind fun(h,c)=>((qF live a).bind fun i=>bif i then(qF b h).bind fun k=>bif k then(qF b c).bind fun l=>V (!l) else V Cd else V Cd).bind fun g=>bif g then(qF b c).bind fun _=>iz links live m n (ak b c An) An (qj (a+1)) else iz links live m n b b3 (qj (a+1)) else V (b,b3,a)
def ly(links:List qw)(live:List Bool)(c:Bool):Nat->(List Bool)->Bool->Option ((List Bool)×Bool)|0,_,_=>U|n+1,a,b2=>bif b2 then(iz links live c n a Cd 0).bind fun(b,b3,_)=>ly links live c n b b3 else V (a,b2)
def sa(n:Nat)(c:Int)(links:List qw)(live:List Bool)(node:Int)(b:Bool):Option (List Bool):=(xY c (Cd:Bool)).bind fun x1=>(qF x1 node).bind fun _=>(ly links live b n (ak x1 node An) An).bind fun(a,_)=>V a
theorem yQ{a_n}{links:List qw}{live:List Bool}{node forward}(M:Ro w links cs1)(N:Ro w live cs2){r:List Bool}(F:sa n a_n links live node forward=V r):qP prog 247 [vi a_n,gv links cs1,gv live cs2,vi node,.bool forward] w r:=by
 obtain⟨p1,B,rfl,s1⟩:=M;obtain⟨D,C,rfl,s2⟩:=N;refine zV 63 func247 Z fun h=>X0 7 Z ?_;obtain⟨x1,c,F⟩:=qc F;obtain⟨g1,g2,c⟩:=aL c;refine bv qa Bool h z9 g1 g2 c Z fun _ S1 a h=>X0 6 Z ?_;obtain⟨_,c0,F,k,_,_,_,_,s,v,rfl,O⟩:=(h.sl 0 Z).1.ix F;refine zx s v ⟨k.1,qD k.2.1 (h.sl 0 Z).2⟩ Z (bK qa 0 0 An h Z c0 s v Z O Z Z Z Z Z Z Z fun _ h=>X0 6 Z ?_);obtain⟨o1,F,K⟩:=qc F;refine qr (rL (fun m e w'=>∃x2 b2,ly links live forward m x2 b2=V o1/\e=[(1,oL p1 links B),(2,oL D live C),(4,.bool forward),(11,oS a x1.length x1.length),(12,.bool b2)]/\SH w w' [oW S1 (x2:List Bool) [oS a x1.length x1.length]]) n ⟨_,_,F,Z,h⟩ Z ?_);rintro m1 _ _ ⟨x2,b2,F,rfl,h⟩;rcases m1 with _|m1
 .cases F
 refine X0 5 Z (qp Z F ?_ ?_)<;>intro F
 .refine X0 10 Z ?_;obtain⟨o2,F,L⟩:=qc F;refine qr (rL (fun m e w'=>∃z b3 y,iz links live forward m z b3 y=V o2/\e=[(1,oL p1 links B),(2,oL D live C),(4,.bool forward),(11,oS a x1.length x1.length),(12,.bool b3),(13,vi y)]/\SH w w' [oW S1 (z:List Bool) [oS a x1.length x1.length]]) m1 ⟨_,_,_,F,Z,h⟩ Z ?_);rintro m2 _ _ ⟨z,b3,y,F,rfl,h⟩;rcases m2 with _|m2
  .cases F
  refine X0 8 Z (qp Z F ?_ ?_)<;>intro F
  .refine X0 4 Z (rD (xQ Z ?_));obtain⟨_,_,F,W,_,_,_,_,a3,a8,b8,P⟩:=s1.ix F;obtain rfl:=aA b8;refine hG a3 a8 W Z (vD Z (fF 0 P h Z (xQ Z ?_)));obtain⟨_,_,F,X,_,_,_,_,a4,a9,b9,Q⟩:=s1.ix F;obtain rfl:=aA b9;refine hG a4 a9 X Z (vD Z (fF 1 Q h Z (xQ Z (dN h fun _ h=>X0 6 Z ?_))));obtain⟨I,g,_,F,d⟩:=bindE F;refine bd (fun e w'=>∃i2 A,I (i2,A)=V o2/\e=[(1,oL p1 links B),(2,oL D live C),(4,.bool forward),(11,oS a x1.length x1.length),(12,.bool b3),(13,vi y),(14,vi i2),(15,vi A)]/\SH w w' [oW S1 (z:List Bool) [oS a x1.length x1.length]]) ?_ ?_
   .refine qp Z F ?_ ?_<;>intro F
    .refine X0 6 Z ?_;cases qe F;exact rG ⟨_,_,d,Z,h⟩ Z
    refine ez ?_;cases qe F;exact rG ⟨_,_,d,Z,h⟩ Z
   rintro _ _ ⟨i2,A,F,rfl,h⟩;subst g;refine au ?_;obtain⟨H,f,_,F,b⟩:=bindE F;refine bd (fun e w'=>∃J,H J=V o2/\e=[(1,oL p1 links B),(2,oL D live C),(4,.bool forward),(11,oS a x1.length x1.length),(12,.bool b3),(13,vi y),(15,vi A),(58,.bool J)]/\SH w w' [oW S1 (z:List Bool) [oS a x1.length x1.length]]) ?_ ?_
   .refine X0 3 Z ?_;obtain⟨_,_,F,Y,_,_,_,_,a5,b4,rfl,S⟩:=s2.ix F;refine fG a5 b4 Y Z (bN 0 S h Z (cq Z (qh (t:=46) F Z ?_ ?_)))<;>intro F
    .refine X0 5 Z ?_;obtain⟨_,_,F,o,_,_,_,_,a6,b5,rfl,T⟩:=(h.sl 0 Z).1.ix F;refine zx a6 b5 ⟨o.1,qD o.2.1 (h.sl 0 Z).2⟩ Z (X0 1 Z (zc 0 T Z (lY Z (qh (t:=52) F Z ?_ ?_))))<;>intro F
     .refine X0 5 Z ?_;obtain⟨_,_,F,p,_,_,_,_,a7,b7,rfl,i⟩:=(h.sl 0 Z).1.ix F;refine zx a7 b7 ⟨p.1,qD p.2.1 (h.sl 0 Z).2⟩ Z (X0 1 Z (zc 0 i Z (X0 4 Z ?_)));exact rH F b h Z
     refine X0 7 Z ?_;exact rH F b h Z
    refine X0 13 Z ?_;exact rH F b h Z
   rintro _ _ ⟨J,F,rfl,h⟩;subst f;refine qp Z F ?_ ?_<;>intro F
   .refine X0 4 Z ?_;obtain⟨_,c2,F,l,_,_,_,_,u,x,rfl,R⟩:=(h.sl 0 Z).1.ix F;exact zx u x ⟨l.1,qD l.2.1 (h.sl 0 Z).2⟩ Z (bK qa 0 0 An h Z c2 u x Z R Z Z Z Z Z Z Z fun _ h=>X0 10 Z (rK ⟨_,_,_,F,Z,h⟩ Z))
   exact X0 7 Z (rK ⟨_,_,_,F,Z,h⟩ Z)
  refine qx Z ?_;cases qe F;exact WF (rK ⟨_,_,L,Z,h⟩ Z)
 refine qx Z ?_;cases qe F;have F:=K;refine X0 5 Z ?_;cases qe F;exact rO 0 h Z ⟨Z,G⟩
def gR(links:List qw)(live:List Bool)(v:Int):Nat->Int->Option (eE Bool Int)|0,_=>U|n+1,a=>bif decide (a<(links.length:Int)) then(qF live a).bind fun b=>bif b then(qF links a).bind fun c=>bif (c.Bk==v) then(qF links a).bind fun d=>bif (d.To==v) then V (.ret An) else gR links live v n (qj (a+1)) else gR links live v n (qj (a+1)) else gR links live v n (qj (a+1)) else V (.nxt a)
def wg(n:Nat)(links:List qw)(live:List Bool)(v:Int):Option Bool:=(gR links live v n 0).bind fun|.ret r=>V r|.nxt _=>V Cd
theorem LM{links:List qw}{live:List Bool}{v}(b:Ro w links cs1)(c:Ro w live cs2){r:Bool}(F:wg n links live v=V r):qP prog 248 [gv links cs1,gv live cs2,vi v] w r:=by
 obtain⟨p1,D,rfl,s1⟩:=b;obtain⟨I,H,rfl,s2⟩:=c;refine zV 36 func248 Z fun h=>X0 9 Z ?_;obtain⟨o1,F,a⟩:=qc F;refine qr (rL (fun m e w'=>∃B,gR links live v m B=V o1/\e=[(0,oL p1 links D),(1,oL I live H),(2,vi v),(7,vi B)]/\SH w w' []) n ⟨_,F,Z,h⟩ Z ?_);rintro C _ _ ⟨B,F,rfl,h⟩;rcases C with _|C
 .cases F
 refine X0 8 Z (qp Z F ?_ ?_)<;>intro F
 .refine X0 7 Z ?_;obtain⟨_,_,F,i,_,_,_,_,o,u,rfl,d⟩:=s2.ix F;refine fG o u i Z (bN 0 d h Z (cq Z (qh (t:=18) F Z ?_ ?_)))<;>intro F
  .refine X0 5 Z ?_;obtain⟨_,_,F,k,_,_,_,_,p,x,z,f⟩:=s1.ix F;obtain rfl:=aA z;refine fG p x k Z (X0 3 Z (bN 0 f h Z (X0 6 Z (qh (t:=27) F Z ?_ ?_))))<;>intro F
   .refine X0 5 Z ?_;obtain⟨_,_,F,l,_,_,_,_,s,y,A,g⟩:=s1.ix F;obtain rfl:=aA A;refine fG s y l Z (X0 3 Z (bN 1 g h Z (X0 6 Z (qp Z F ?_ ?_))))<;>intro F
    .refine X0 4 Z ?_;cases qe F;exact rb h a Z
    exact X0 7 Z (rK ⟨_,F,Z,h⟩ Z)
   exact X0 9 Z (ch Z Z (X0 7 Z (rK ⟨_,F,Z,h⟩ Z)))
  exact X0 18 Z (ch Z Z (X0 7 Z (rK ⟨_,F,Z,h⟩ Z)))
 refine qx Z ?_;cases qe F;exact X0 4 Z (rb h a Z)
def iD(Ce:Int)(r1:List Bool)(c:List Bool):Nat->(List Int)->(List Bool)->Int->Option ((List Int)×(List Bool)×Int)|0,_,_,_=>U|n+1,d,b,a=>bif decide (a<Ce) then((qF r1 a).bind fun g=>bif g then(qF c a).bind fun h=>V h else V Cd).bind fun b2=>bif b2 then(dj d ([a]:List Int)).bind fun f=>(qF b a).bind fun _=>iD Ce r1 c n f (ak b a An) (qj (a+1)) else iD Ce r1 c n d b (qj (a+1)) else V (d,b,a)
def ga(Ce:Int)(Cf:List qw)(Cg:List Bool):Nat->(List Bool)->(List (List Int))->Int->Option ((List Bool)×(List (List Int))×Int)|0,_,_,_=>U|n+1,b,c,a=>bif decide (a<Ce) then(qF b a).bind fun l=>bif l then ga Ce Cf Cg n b c (qj (a+1)) else(sa n Ce Cf Cg a An).bind fun r1=>(sa n Ce Cf Cg a Cd).bind fun h=>(iD Ce r1 h n ([]:List Int) b 0).bind fun(d,f,_)=>(bif decide ((d.length:Int) > 1) then V An else(wg n Cf Cg a).bind fun i=>V i).bind fun g=>bif g then(dj c ([d]:List (List Int))).bind fun k=>ga Ce Cf Cg n f k (qj (a+1)) else ga Ce Cf Cg n f c (qj (a+1)) else V (b,c,a)
def uU(n:Nat)(Ce:Int)(Cf:List qw)(Cg:List Bool):Option (List (List Int)):=(xY Ce (Cd:Bool)).bind fun x1=>(ga Ce Cf Cg n x1 ([]:List (List Int)) 0).bind fun(_,a,_)=>V a
theorem IV{Ce}{Cf:List qw}{Cg:List Bool}(a5:Ro w Cf cs1)(a6:Ro w Cg cs2){r:List (List Int)}(F:uU n Ce Cf Cg=V r):qP prog 207 [vi Ce,gv Cf cs1,gv Cg cs2] w r:=by
 obtain⟨p1,N,rfl,s1⟩:=a5;obtain⟨R,O,rfl,s2⟩:=a6;refine zV 73 func207 Z fun h=>X0 6 Z (kh qa [] _ ([]:List (List Int)) [] h Z Z Z Z Z Z Z Z Z pe Z Z fun _ _ _ h=>X0 5 Z ?_);obtain⟨x1,f,F⟩:=qc F;obtain⟨g1,g2,f⟩:=aL f;refine bv qa Bool h z9 g1 g2 f Z fun _ S2 d h=>X0 7 Z ?_;obtain⟨o1,F,a3⟩:=qc F;refine qr (rL (fun m e w'=>∃(x2:List Bool) (v:Nat->Prop) (c:Option Addr) (l:Nat) (k3:Nat) (a:List (List Int)) (u:Int),ga Ce Cf Cg m x2 a u=V o1/\e=[(0,vi Ce),(1,oL p1 Cf N),(2,oL R Cg O),(7,oS c l k3),(8,oS d x1.length x1.length),(9,vi u)]/\SH w w' [oW S2 (x2:List Bool) [oS d x1.length x1.length],oW v (a:List (List Int)) [oS c l k3]]) n ⟨_,_,_,_,_,_,_,F,Z,h⟩ Z ?_);rintro m1 _ _ ⟨x2,v,c,l,k3,a,u,F,rfl,h⟩;obtain rfl:=(h.sl 1 Z).2;rcases m1 with _|m1
 .cases F
 refine X0 7 Z (qp Z F ?_ ?_)<;>intro F
 .refine X0 8 Z ?_;obtain⟨_,_,F,B,_,_,_,_,b5,b9,rfl,a7⟩:=(h.sl 0 Z).1.ix F;refine zx b5 b9 ⟨B.1,qD B.2.1 (h.sl 0 Z).2⟩ Z (zc 0 a7 Z (ac (qp Z F ?_ ?_)))<;>intro F
  .exact qx Z (X0 5 Z (rK ⟨_,_,_,_,_,_,_,F,Z,h⟩ Z))
  refine X0 7 Z (uj h F (yQ ⟨_,_,Z,(h.oldS s1)⟩ ⟨_,_,Z,(h.oldS s2)⟩) Z fun r1 _ S4 S P h F=>qdZ Z (uj h F (yQ ⟨_,_,Z,(h.oldS s1)⟩ ⟨_,_,Z,(h.oldS s2)⟩) Z fun s _ S5 T Q h F=>X0 5 Z (qv qa [] _ ([]:List Int) h z9 trivial Z fun _ _ _ h=>X0 7 Z ?_)));obtain⟨o2,F,a4⟩:=qc F;refine qr (rL (fun m e w'=>∃M p o k b L K,iD Ce r1 s m b L K=V o2/\e=[(0,vi Ce),(1,oL p1 Cf N),(2,oL R Cg O),(7,oL c a k3),(8,oS d x1.length x1.length),(9,vi u),(10,oL S r1 P),(11,oL T s Q),(12,oS p o k),(13,vi K)]/\SH w w' [oW M (b:List Int) [oS p o k],oW S5 (s:List Bool) [oL T s Q],oW S4 (r1:List Bool) [oL S r1 P],oW S2 (L:List Bool) [oS d x1.length x1.length],oW v (a:List (List Int)) [oL c a k3]]) m1 ⟨_,_,_,_,_,_,_,F,Z,h⟩ Z ?_);rintro m2 _ _ ⟨M,p,o,k,b,L,K,F,rfl,h⟩;obtain rfl:=(h.sl 0 Z).2;rcases m2 with _|m2
  .cases F
  refine X0 7 Z (qp Z F ?_ ?_)<;>intro F
  .refine X0 4 Z ?_;obtain⟨W,z,_,F,x⟩:=bindE F;refine bd (fun e w'=>∃b2,W b2=V o2/\e=[(0,vi Ce),(1,oL p1 Cf N),(2,oL R Cg O),(7,oL c a k3),(8,oS d x1.length x1.length),(9,vi u),(10,oL S r1 P),(11,oL T s Q),(12,oL p b k),(13,vi K),(51,.bool b2)]/\SH w w' [oW M (b:List Int) [oL p b k],oW S5 (s:List Bool) [oL T s Q],oW S4 (r1:List Bool) [oL S r1 P],oW S2 (L:List Bool) [oS d x1.length x1.length],oW v (a:List (List Int)) [oL c a k3]]) ?_ ?_
   .refine X0 3 Z ?_;obtain⟨_,_,F,D,_,_,_,_,b7,c0,rfl,a9⟩:=(h.sl 2 Z).1.ix F;refine zx b7 c0 ⟨D.1,qD D.2.1 (h.sl 2 Z).2⟩ Z (zc 0 a9 Z (cq Z (qh (t:=46) F Z ?_ ?_)))<;>intro F
    .refine X0 5 Z ?_;obtain⟨_,_,F,H,_,_,_,_,b8,c2,rfl,b4⟩:=(h.sl 1 Z).1.ix F;refine zx b8 c2 ⟨H.1,qD H.2.1 (h.sl 1 Z).2⟩ Z (X0 1 Z (zc 0 b4 Z (X0 2 Z ?_)));exact rH F x h Z
    refine X0 6 Z ?_;exact rH F x h Z
   rintro _ _ ⟨b2,F,rfl,h⟩;subst z;refine qp Z F ?_ ?_<;>intro F
   .refine X0 4 Z (qv qa [.tmp 53] _ ([K]:List Int) h z9 ⟨Z,G⟩ Z fun _ _ _ h=>?_);obtain⟨_,g,F⟩:=qc F;obtain⟨g3,g⟩:=qH g;refine bo qa 1 h Z (h.sl 0 Z).1 (h.sl 0 Z).2 z9 g3 g Z fun _ _ _ _ h=>X0 5 Z ?_;obtain⟨_,c3,F,C,_,_,_,_,I,J,rfl,a8⟩:=(h.sl 4 Z).1.ix F;refine zx I J ⟨C.1,qD C.2.1 (h.sl 4 Z).2⟩ Z (bK qa 4 0 An h Z c3 I J Z a8 Z Z Z Z Z Z Z fun _ h=>X0 7 Z ?_);exact rK ⟨_,_,_,_,_,_,_,F,Z,h.p [1,2,3,4,5] Z⟩ Z
   exact X0 7 Z (rK ⟨_,_,_,_,_,_,_,F,Z,h⟩ Z)
  refine qx Z ?_;cases qe F;have F:=a4;refine au ?_;obtain⟨X,A,_,F,y⟩:=bindE F;refine bd (fun e w'=>∃Y,X Y=V o1/\e=[(0,vi Ce),(1,oL p1 Cf N),(2,oL R Cg O),(7,oL c a k3),(8,oS d x1.length x1.length),(9,vi u),(12,oL p b k),(67,.bool Y)]/\SH w w' [oW M (b:List Int) [oL p b k],oW S2 (L:List Bool) [oS d x1.length x1.length],oW v (a:List (List Int)) [oL c a k3]]) ?_ ?_
  .refine X0 5 Z (qh (t:=62) F Z ?_ ?_)<;>intro F
   .refine X0 6 Z ?_;have h:=h.p [0,3,4] Z;exact rH F y h Z
   refine X0 7 Z (dF h F (LM ⟨_,_,Z,(h.oldS s1)⟩ ⟨_,_,Z,(h.oldS s2)⟩) Z fun _ _ h F=>X0 2 Z ?_);have h:=h.p [0,3,4] Z;exact rH F y h Z
  rintro _ _ ⟨Y,F,rfl,h⟩;subst A;refine qp Z F ?_ ?_<;>intro F
  .refine X0 3 Z (kh qa [.tmp 69] _ ([b]:List (List Int)) [1,2] h Z Z Z Z Z Z Z Z Z (fU (qS 0 h Z) pe Z) Z Z fun _ _ _ h=>?_);obtain⟨_,i,F⟩:=qc F;obtain⟨g4,i⟩:=qH i;have h:=h.p [0,2,1] Z;refine zA qa h Z Z Z Z Z Z Z Z Z g4 i Z fun _ _ _ _ h=>X0 8 Z ?_;exact rK ⟨_,_,_,_,_,_,_,F,Z,h.p [1,0] Z⟩ Z
  refine X0 7 Z ?_;exact rK ⟨_,_,_,_,_,_,_,F,Z,h.p [1,2] Z⟩ Z
 refine qx Z ?_;cases qe F;have F:=a3;refine X0 5 Z ?_;cases qe F;exact rO 1 h Z ⟨Z,G⟩

def iC(b:List Bool)(x1:List Bool):Nat->(List Int)->Int->Option ((List Int)×Int)|0,_,_=>U|n+1,c,a=>bif decide (a<(b.length:Int)) then(qF x1 a).bind fun f=>bif (!f) then(dj c ([a]:List Int)).bind fun d=>iC b x1 n d (qj (a+1)) else iC b x1 n c (qj (a+1)) else V (c,a)
def dh(r1:List qw)(x1:List Bool)(b:List (List Int)):Nat->Int->Int->Option (Int×Int)|0,_,_=>U|n+1,c,a=>bif decide (a<(r1.length:Int)) then(qF x1 a).bind fun g=>bif g then(qF r1 a).bind fun h=>bif (h.Bf==1) then(qF b 0).bind fun i=>(qF r1 a).bind fun k=>(td n i k.Bk).bind fun d=>bif d then(qF b 0).bind fun l=>(qF r1 a).bind fun m=>(td n l m.To).bind fun f=>bif f then dh r1 x1 b n a (qj (a+1)) else dh r1 x1 b n c (qj (a+1)) else dh r1 x1 b n c (qj (a+1)) else dh r1 x1 b n c (qj (a+1)) else dh r1 x1 b n c (qj (a+1)) else V (c,a)
def nQ(r1:List qw)(b:Int):Nat->(List Bool)->Option (List Bool)|0,_=>U|n+1,x1=>(uU n b r1 x1).bind fun c=>bif ((c.length:Int)==0) then V x1 else(dh r1 x1 c n (-1) 0).bind fun(a,_)=>(qF x1 a).bind fun _=>nQ r1 b n (ak x1 a Cd)
def uT(n:Nat)(Ce:qf):Option (List Int):=(iN n Ce).bind fun r1=>(ov n r1 ([]:List Int)).bind fun a=>(bT n Ce).bind fun b=>(nQ r1 b n a).bind fun x1=>(iC a x1 n ([]:List Int) 0).bind fun(c,_)=>V c
theorem IU{Ce:qf}(b:Ro w Ce cs1){r:List Int}(F:uT n Ce=V r):qP prog 151 [gv Ce cs1] w r:=by
 obtain⟨_,_,_,_,_,_,_,_,_,_,rfl,_,_,_,_,_⟩:=qW b;refine zV 86 func151 Z fun h=>dE (qJ h Z Z fun _ _ h=>X1 5 0 h Z (uj h F (lw (h.old b)) Z fun r1 _ S1 Q P h F=>X0 5 Z (qv qa [] _ ([]:List Int) h z9 trivial Z fun _ _ _ h=>uj h F (oD (h.own 1 Z) (h.own 0 Z)) Z fun g _ S k i h F=>X1 5 3 h Z (mN h F (dL (h.old b)) Z fun r3 _ h F=>X0 3 Z ?_))));obtain⟨o1,F,T⟩:=qc F;refine qr ?_;have h:=h.p [0,2] Z;refine rL (fun m e w'=>∃x1,nQ r1 r3 m x1=V o1/\e=[(3,oL Q r1 P),(4,oL k g i),(5,vi r3)]/\SH w w' [oW S (x1:List Bool) [oL k g i],oW S1 (r1:List qw) [oL Q r1 P]]) n ⟨_,F,Z,h⟩ Z ?_;rintro m1 _ _ ⟨x1,F,rfl,h⟩;rcases m1 with _|m1
 .cases F
 refine X0 6 Z (uj h F (IV (h.own 1 Z) (h.own 0 Z)) Z fun R _ S4 p9 k8 h F=>X0 9 Z (qp Z F ?_ ?_))<;>intro F
 .refine qx Z ?_;obtain rfl:=qe F;have F:=T;refine dE (qv qa [] _ ([]:List Int) h z9 trivial Z fun _ _ _ h=>X0 7 Z ?_);obtain⟨o2,F,W⟩:=qc F;refine qr ?_;have h:=h.p [0,2] Z;refine rL (fun m e w'=>∃S6 f d k9 x2 O,iC g x1 m x2 O=V o2/\e=[(4,oL k g i),(9,oS f d k9),(10,vi O)]/\SH w w' [oW S6 (x2:List Int) [oS f d k9],oW S (x1:List Bool) [oL k g i]]) n ⟨_,_,_,_,_,_,F,Z,h⟩ Z ?_;rintro m2 _ _ ⟨S6,f,d,k9,x2,O,F,rfl,h⟩;obtain rfl:=(h.sl 0 Z).2;rcases m2 with _|m2
  .cases F
  refine X0 8 Z (qp Z F ?_ ?_)<;>intro F
  .refine X0 7 Z ?_;obtain⟨_,_,F,s,_,_,_,_,a7,b8,rfl,Y⟩:=(h.sl 1 Z).1.ix F;refine zx a7 b8 ⟨s.1,qD s.2.1 (h.sl 1 Z).2⟩ Z (zc 0 Y Z (X0 2 Z (qp Z F ?_ ?_)))<;>intro F
   .refine X0 3 Z (qv qa [.tmp 82] _ ([O]:List Int) h z9 ⟨Z,G⟩ Z fun _ _ _ h=>?_);obtain⟨_,c,F⟩:=qc F;obtain⟨g1,c⟩:=qH c;refine bo qa 1 h Z (h.sl 0 Z).1 (h.sl 0 Z).2 z9 g1 c Z fun _ _ _ _ h=>X0 8 Z ?_;exact rK ⟨_,_,_,_,_,_,F,Z,h.p [1,2] Z⟩ Z
   exact X0 7 Z (rK ⟨_,_,_,_,_,_,F,Z,h⟩ Z)
  refine qx Z ?_;cases qe F;have F:=W;refine X0 5 Z ?_;cases qe F;exact rO 0 h Z ⟨Z,G⟩
 refine X0 10 Z ?_;obtain⟨o3,F,X⟩:=qc F;refine qr (rL (fun m e w'=>∃i2 i3,dh r1 x1 R m i2 i3=V o3/\e=[(3,oL Q r1 P),(4,oL k g i),(5,vi r3),(6,oL p9 R k8),(7,vi i2),(8,vi i3)]/\SH w w' [oW S4 (R:List (List Int)) [oL p9 R k8],oW S (x1:List Bool) [oL k g i],oW S1 (r1:List qw) [oL Q r1 P]]) m1 ⟨_,_,F,Z,h⟩ Z ?_);rintro m3 _ _ ⟨i2,i3,F,rfl,h⟩;rcases m3 with _|m3
 .cases F
 refine X0 8 Z (qp Z F ?_ ?_)<;>intro F
 .refine X0 4 Z (rD (xQ Z ?_));obtain⟨_,_,F,u,_,_,_,_,a8,b9,rfl,a3⟩:=(h.sl 1 Z).1.ix F;refine XH a8 b9 ⟨u.1,qD u.2.1 (h.sl 1 Z).2⟩ Z (XG 0 a3 Z (vD Z (bJ (t:=35) F Z ?_ ?_)))<;>intro F
  .refine Y0 5 Z ?_;obtain⟨_,_,F,v,_,_,_,_,a9,c0,c6,a4⟩:=(h.sl 2 Z).1.ix F;obtain rfl:=aA c6;refine XH a9 c0 ⟨v.1,qD v.2.1 (h.sl 2 Z).2⟩ Z (Y0 3 Z (XG 2 a4 Z (Y0 4 Z (bJ (t:=43) F Z ?_ ?_))))<;>intro F
   .refine Y0 3 Z ?_;obtain⟨_,N,F⟩:=qc F;have x:=bH N;have h:=h.lrn0 0 Z;obtain⟨_,o_4,_,_,b4,c2,-,M,a5⟩:=(kZ (h.lrnO 0 Z)).1.at N;have c7:=M;obtain⟨_,_,rfl,_⟩:=M;have h:=h.lrnAdd 0 Z c7;refine XH b4 c2 ⟨x.1,qD x.2.1 (kZ (h.lrnO 0 Z)).2⟩ Z (Y0 1 Z (XG 0 a5 Z (Y0 5 Z ?_)));obtain⟨_,_,F,y,_,_,_,_,b5,c3,H,a6⟩:=(h.sl 2 Z).1.ix F;obtain rfl:=aA H;refine XH b5 c3 ⟨y.1,qD y.2.1 (h.sl 2 Z).2⟩ Z (Y0 3 Z (XG 0 a6 Z (Y0 1 Z ?_)));obtain⟨r5,I,F⟩:=qc F;refine en r5 (KO _) (cB 171 Z) (fun _ hb=>wQ (qm.mono ((h.ext hb).lrnS 0 0 Z Z) ((h.ext hb).lrnB 0 Z)) I) Z Z Z Z (xQ Z (bJ (t:=54) F Z ?_ ?_))<;>intro F
    .refine Y0 3 Z ?_;obtain⟨_,_,F,z,_,_,_,_,b6,c4,a,l⟩:=(kZ (h.lrnO 0 Z)).1.ix F;have J:=a;obtain⟨_,_,rfl,_⟩:=a;have h:=h.lrnAdd 0 Z J;refine XH b6 c4 ⟨z.1,qD z.2.1 (kZ (h.lrnO 0 Z)).2⟩ Z (Y0 1 Z (XG 0 l Z (Y0 5 Z ?_)));obtain⟨_,_,F,A,_,_,_,_,b7,c5,K,o⟩:=(h.sl 2 Z).1.ix F;obtain rfl:=aA K;refine XH b7 c5 ⟨A.1,qD A.2.1 (h.sl 2 Z).2⟩ Z (Y0 3 Z (XG 1 o Z (Y0 1 Z ?_)));obtain⟨r6,L,F⟩:=qc F;refine en r6 (KO _) (cB 171 Z) (fun _ hb=>wQ (qm.mono ((h.ext hb).lrnS 0 0 Z Z) ((h.ext hb).lrnB 0 Z)) L) Z Z Z Z (vD Z (dN h fun _ h=>qp Z F ?_ ?_))<;>intro F
     .refine X0 10 Z ?_;have h:=h.unlrn 0 Z;exact rK ⟨_,_,F,Z,h⟩ Z
     refine X0 7 Z ?_;have h:=h.unlrn 0 Z;exact rK ⟨_,_,F,Z,h⟩ Z
    refine Y0 10 Z (dN h fun _ h=>ch Z Z (X0 7 Z ?_));have h:=h.unlrn 0 Z;exact rK ⟨_,_,F,Z,h⟩ Z
   exact Y0 21 Z (dN h fun _ h=>ch Z Z (X0 7 Z (rK ⟨_,_,F,Z,h⟩ Z)))
  exact Y0 29 Z (dN h fun _ h=>ch Z Z (X0 7 Z (rK ⟨_,_,F,Z,h⟩ Z)))
 refine qx Z ?_;cases qe F;have F:=X;refine X0 3 Z ?_;obtain⟨_,c8,F,B,_,_,_,_,C,D,rfl,p⟩:=(h.sl 1 Z).1.ix F;refine zx C D ⟨B.1,qD B.2.1 (h.sl 1 Z).2⟩ Z (bK qa 1 0 Cd h Z c8 C D Z p Z Z Z Z Z Z Z fun _ h=>qd6 ?_);exact rK ⟨_,F,Z,h.p [1,2] Z⟩ Z
def dD(Ce:qb)(A:Int)(b1:Bool):Nat->(List ql)->Int->Int->Int->Option ((List ql)×Int×Int×Int)|0,_,_,_,_=>U|n+1,D,B,C,d=>bif decide (d<2) then(bif b1 then(qt n (⟨Ce.code,B,C⟩:qb) 8).bind fun(s,b,c)=>bif decide (s > 0) then V (b,c,An) else(qt n (⟨Ce.code,b,c⟩:qb) 24).bind fun(t,u,v)=>V (u,v,(t==0)) else(qt n (⟨Ce.code,B,C⟩:qb) 24).bind fun(x,y,z)=>V (y,z,(x==0))).bind fun|(F,i8,b2)=>bif b2 then(qt n (⟨Ce.code,F,i8⟩:qb) 200).bind fun|(H,f,g)=>(qt n (⟨Ce.code,f,g⟩:qb) 30).bind fun(a,h,i)=>(qt n (⟨Ce.code,h,i⟩:qb) 40).bind fun(k,i16,l)=>(qt n (⟨Ce.code,i16,l⟩:qb) 12).bind fun(m,p,r)=>(dj D ([(⟨qj ((qj (2*A))+d),(⟨qj (H-50),qj ((qj (H-50))+k)⟩:qg),(⟨a,qj (a+m)⟩:qg)⟩:ql)]:List ql)).bind fun I=>dD Ce A b1 n I p r (qj (d+1)) else dD Ce A b1 n D F i8 (qj (d+1)) else V (D,B,C,d)
def eS(Ce:qb)(b:List qU):Nat->(List ql)->Int->Int->Int->Option ((List ql)×Int×Int×Int)|0,_,_,_,_=>U|n+1,x1,c,d,a=>bif decide (a<(b.length:Int)) then((qF b a).bind fun i=>bif decide (i.instance_<0) then(qF b a).bind fun k=>V k.drives else V Cd).bind fun b1=>(dD Ce a b1 n x1 c d 0).bind fun(h,f,g,_)=>eS Ce b n h f g (qj (a+1)) else V (x1,c,d,a)
def kJ(n:Nat)(Ce:qb)(Cf:qf):Option ((List ql)×Int×Int):=(kT n Cf).bind fun r1=>bif (!r1) then V (([]:List ql),Ce.at_,Ce.seed) else(eA n (⟨Cf.Aa.Ab,Cf.Aa.Am,Cf.Aa.Ai⟩:qk)).bind fun m=>(eS Ce m n ([]:List ql) Ce.at_ Ce.seed 0).bind fun(x1,g,h,_)=>bif decide ((x1.length:Int) > 0) then(qt n (⟨Ce.code,g,h⟩:qb) (x1.length:Int)).bind fun(a,f,i32)=>(qt n (⟨Ce.code,f,i32⟩:qb) 30).bind fun(d,b,c)=>bif (d==0) then(qF x1 0).bind fun p=>(qF x1 a).bind fun r=>V ((ak x1 a ({ r with Bn:=p.Bn })),b,c) else bif (d==1) then(qF x1 a).bind fun s=>(qF x1 a).bind fun i=>V ((ak x1 a ({ i with Af:={ i.Af with As:=qj (s.Af.Be+1) } })),b,c) else bif (d==2) then(qF x1 a).bind fun k=>V ((ak x1 a ({ k with Bb:={ k.Bb with As:=(-1) } })),b,c) else bif (d==3) then(qF x1 a).bind fun l=>V ((ak x1 a ({ l with Af:={ l.Af with Be:=1000000000 } })),b,c) else V (x1,b,c) else V (x1,g,h)
theorem tf{n b w F}{Ce:qb}{a p1 c}{Cf:qf}{cs1}(o:SH b w (xb a Ce p1 c Ce.at_ Ce.seed::F))(ha1:qm.R w (Fr b F) Ce (ao Ce p1 c))(H:qm.R w (Fr b F) Cf cs1){r:(List ql)×Int×Int}(hF:kJ n Ce Cf=V r):wX prog 152 [vp a,gv Cf cs1] w (fun us w'=>∃S1 cs2,us=[oV (List ql) cs2]/\SH b w' (oW S1 (r.1:List ql) cs2::xb a Ce p1 c r.2.1 r.2.2::F)):=by
 have h:=Da o ha1;have hz1:=H;obtain⟨p2,k2,p3,k3,p4,k4,p5,k5,p6,k6,rfl,_,_,_,_,_⟩:=qW H;have h:=h.grpAdd 1 Z hz1;replace h:SH _ _ [xb a Ce p1 c Ce.at_ Ce.seed,oG (old b) (FS F) [ti (Cf:qf) (qN Cf p2 p3 p4 p5 p6 k2 k3 k4 k5 k6),ti (Ce:qb) (ao Ce p1 c),same b w F]]:=h;refine cp func152 Z (m:=128) Z Z (dE (qJ h Z Z fun _ _ h=>X0 4 Z (qv qa [] _ ([]:List ql) h z9 trivial Z fun _ p7 _ h=>X1 6 1 h Z (dF h hF (oC (h.grp 3 0 Z Z)) Z fun _ _ h hF=>X0 2 Z (qp Z hF ?_ ?_)))))<;>intro hF
 .refine X0 5 Z ?_;obtain rfl:=qe hF;have h:=h.p [0,2,3] Z;exact bX qa [oV (List ql) [oS p7 0 0]] ⟨Z,G⟩ ⟨_,_,Z,Cv 1 2 o h Z Z⟩
 refine X1 5 1 h Z (uj h hF (dY (show qm.R _ _ (Cf.Aa:qk) _ from⟨[oL p3 Cf.Aa.Ab k3],[oL p4 Cf.Aa.Am k4,oL p5 Cf.Aa.Ai k5],Z,⟨_,_,Z,(fN (h.grp 3 0 Z Z)).2.1.1⟩,⟨[oL p4 Cf.Aa.Am k4],[oL p5 Cf.Aa.Ai k5],Z,⟨_,_,Z,(fN (h.grp 3 0 Z Z)).2.2.1.1⟩,⟨_,_,Z,(fN (h.grp 3 0 Z Z)).2.2.2.1.1⟩⟩⟩)) Z fun d _ S3 s p h hF=>X0 7 Z ?_);have h:=h.grpKeep [1,2] 4 Z;obtain⟨o1,hF,hK1⟩:=qc hF;refine qr ?_;have h:=h.p [0,1,3,4] Z;refine rL (fun m e w'=>∃S4 i x f x1 i1 i2 l,eS Ce d m x1 i1 i2 l=V o1/\e=[(0,vp a),(5,oS i x f),(6,oL s d p),(7,vi l)]/\SH b w' [oW S3 (d:List qU) [oL s d p],oW S4 (x1:List ql) [oS i x f],xb a Ce p1 c i1 i2,xf b w F Ce p1 c]) n ⟨_,_,_,_,_,_,_,_,hF,Z,h⟩ Z ?_;rintro m1 _ _ ⟨S4,i,x,f,x1,i1,i2,l,hF,rfl,h⟩;obtain rfl:=(h.sl 1 Z).2;rcases m1 with _|m1
 .cases hF
 refine X0 8 Z (qp Z hF ?_ ?_)<;>intro hF
 .refine X0 4 Z ?_;obtain⟨KF2,D,_,hF,B⟩:=bindE hF;refine bd (fun e w'=>∃b1,KF2 b1=V o1/\e=[(0,vp a),(5,oL i x1 f),(6,oL s d p),(7,vi l),(8,.bool b1)]/\SH b w' [oW S3 (d:List qU) [oL s d p],oW S4 (x1:List ql) [oL i x1 f],xb a Ce p1 c i1 i2,xf b w F Ce p1 c]) ?_ ?_
  .refine X0 3 Z ?_;obtain⟨_,_,hF,N,_,_,_,_,hp1,hq1,a9,hc5⟩:=(h.sl 0 Z).1.ix hF;obtain rfl:=df a9;refine zx hp1 hq1 ⟨N.1,qD N.2.1 (h.sl 0 Z).2⟩ Z (cq Z (zc 0 hc5 Z (lY Z (qh (t:=33) hF Z ?_ ?_))))<;>intro hF
   .refine X0 5 Z ?_;obtain⟨_,_,hF,O,_,_,_,_,hp2,hq2,b4,hc6⟩:=(h.sl 0 Z).1.ix hF;obtain rfl:=df b4;refine zx hp2 hq2 ⟨O.1,qD O.2.1 (h.sl 0 Z).2⟩ Z (X0 3 Z (zc 3 hc6 Z (X0 3 Z ?_)));exact rH hF B h Z
   refine X0 8 Z ?_;exact rH hF B h Z
  rintro _ _ ⟨b1,hF,rfl,h⟩;subst D;refine X0 4 Z ?_;obtain⟨o2,hF,hK2⟩:=qc hF;refine qr (rL (fun m e w'=>∃S5 g y k9 A i4 i5 z,dD Ce l b1 m A i4 i5 z=V o2/\e=[(0,vp a),(5,oS g y k9),(6,oL s d p),(7,vi l),(8,.bool b1),(9,vi z)]/\SH b w' [oW S3 (d:List qU) [oL s d p],oW S5 (A:List ql) [oS g y k9],xb a Ce p1 c i4 i5,xf b w F Ce p1 c]) m1 ⟨_,_,_,_,_,_,_,_,hF,Z,h⟩ Z ?_);rintro m2 _ _ ⟨S5,g,y,k9,A,i4,i5,z,hF,rfl,h⟩;obtain rfl:=(h.sl 1 Z).2;rcases m2 with _|m2
  .cases hF
  refine X0 6 Z (qp Z hF ?_ ?_)<;>intro hF
  .refine X0 4 Z ?_;obtain⟨KF1,C,_,hF,u⟩:=bindE hF;refine bd (fun e w'=>∃i7 i8 b2,KF1 (i7,i8,b2)=V o2/\e=[(0,vp a),(5,oL g A k9),(6,oL s d p),(7,vi l),(8,.bool b1),(9,vi z),(54,.bool b2)]/\SH b w' [xb a Ce p1 c i7 i8,oW S3 (d:List qU) [oL s d p],oW S5 (A:List ql) [oL g A k9],xf b w F Ce p1 c]) ?_ ?_
   .refine X0 3 Z (qh (t:=45) hF Z ?_ ?_)<;>intro hF
    .refine X0 3 Z ?_;have h:=h.p [2,0,1,3] Z;obtain⟨⟨_,_,_⟩,hr7,hF⟩:=qc hF;refine lZ h (h.frG 3 0 1 Z Z Z) hr7 Z Z Z fun _ h=>X0 4 Z (qh (t:=50) hF Z ?_ ?_)<;>intro hF
     .refine X0 5 Z ?_;cases qe hF;exact rG ⟨_,_,_,u,Z,h⟩ Z
     refine X0 3 Z ?_;obtain⟨⟨_,_,_⟩,hr8,hF⟩:=qc hF;refine lZ h (h.frG 3 0 1 Z Z Z) hr8 Z Z Z fun _ h=>X0 4 Z ?_;cases qe hF;exact rG ⟨_,_,_,u,Z,h⟩ Z
    refine X0 8 Z ?_;have h:=h.p [2,0,1,3] Z;obtain⟨⟨_,_,_⟩,hr9,hF⟩:=qc hF;refine lZ h (h.frG 3 0 1 Z Z Z) hr9 Z Z Z fun _ h=>X0 4 Z ?_;cases qe hF;exact rG ⟨_,_,_,u,Z,h⟩ Z
   rintro _ _ ⟨i7,i8,b2,hF,rfl,h⟩;subst C;refine qp Z hF ?_ ?_<;>intro hF
   .refine X0 3 Z ?_;obtain⟨⟨i9,_,_⟩,hr3,hF⟩:=qc hF;refine lZ h (h.frG 3 0 1 Z Z Z) hr3 Z Z Z fun _ h=>lY Z ?_;obtain⟨⟨k,_,_⟩,hr4,hF⟩:=qc hF;refine lZ h (h.frG 3 0 1 Z Z Z) hr4 Z Z Z fun _ h=>X0 12 Z ?_;obtain⟨⟨c4,_,_⟩,hr5,hF⟩:=qc hF;refine lZ h (h.frG 3 0 1 Z Z Z) hr5 Z Z Z fun _ h=>cq Z (dK (qC qa [0,1] [.tmp 65,.tmp 69] z8) Z (EK Z ?_));obtain⟨⟨c5,_,_⟩,hr6,hF⟩:=qc hF;refine lZ h (h.frG 3 0 1 Z Z Z) hr6 Z Z Z fun _ h=>cq Z (dK (qC qa [0,1] [.tmp 71,.tmp 75] z8) Z (dK (qC qa [0,1,2] [.tmp 64,.tmp 70,.tmp 76] z8) Z (qv qa [.tmp 77] _ ([(⟨qj ((qj (2*l))+z),(⟨qj (i9-50),qj ((qj (i9-50))+c4)⟩:qg),(⟨k,qj (k+c5)⟩:qg)⟩:ql)]:List ql) h z9 ⟨(dw (⟨qj ((qj (2*l))+z),(⟨qj (i9-50),qj ((qj (i9-50))+c4)⟩:qg),(⟨k,qj (k+c5)⟩:qg)⟩:ql)),G⟩ Z fun _ _ _ h=>?_)));obtain⟨_,v,hF⟩:=qc hF;obtain⟨g1,v⟩:=qH v;refine bo qa 3 h Z (h.sl 0 Z).1 (h.sl 0 Z).2 z9 g1 v Z fun _ _ _ _ h=>X0 8 Z ?_;exact rK ⟨_,_,_,_,_,_,_,_,hF,Z,h.p [2,3,1,4] Z⟩ Z
   refine X0 7 Z ?_;exact rK ⟨_,_,_,_,_,_,_,_,hF,Z,h.p [1,2,0,3] Z⟩ Z
  refine qx Z ?_;cases qe hF;exact X0 6 Z (rK ⟨_,_,_,_,_,_,_,_,hK2,Z,h⟩ Z)
 refine qx Z ?_;cases qe hF;replace hF:=hK1;refine X0 7 Z (qp Z hF ?_ ?_)<;>intro hF
 .refine X0 5 Z ?_;have h:=h.p [2,0,1,3] Z;obtain⟨⟨_,_,_⟩,b5,hF⟩:=qc hF;refine lZ h (h.frG 3 0 1 Z Z Z) b5 Z Z Z fun _ h=>X0 5 Z ?_;obtain⟨⟨_,_,_⟩,b6,hF⟩:=qc hF;refine lZ h (h.frG 3 0 1 Z Z Z) b6 Z Z Z fun _ h=>X0 7 Z (qp Z hF ?_ ?_)<;>intro hF
  .refine X0 4 Z ?_;obtain⟨y3,_,hF,P,_,_,_,_,hp3,hq3,b7,hc9⟩:=(h.sl 2 Z).1.ix hF;obtain rfl:=aB b7;refine zx hp3 hq3 ⟨P.1,qD P.2.1 (h.sl 2 Z).2⟩ Z (cq Z (zc 0 hc9 Z ?_));obtain⟨y4,hy4,hF,Q,_,_,_,_,X,a5,b8,I⟩:=(h.sl 2 Z).1.ix hF;obtain rfl:=aB b8;refine zx X a5 ⟨Q.1,qD Q.2.1 (h.sl 2 Z).2⟩ Z (cq Z (bK qa 2 0 ({ y4 with Bn:=y3.Bn }:ql) h Z hy4 X a5 (dw y4) I Z Z Z (dw ({ y4 with Bn:=y3.Bn })) Z Z Z fun _ h=>X0 7 Z ?_));obtain rfl:=qe hF;have h:=h.p [2,0,3] Z;exact bX qa [oV (List ql) [oL i x1 f]] ⟨Z,G⟩ ⟨_,_,Z,Cv 1 1 o h Z Z⟩
  refine X0 5 Z (qp Z hF ?_ ?_)<;>intro hF
  .refine X0 5 Z ?_;obtain⟨y5,_,hF,R,_,_,_,_,hp5,hq5,b9,J⟩:=(h.sl 2 Z).1.ix hF;obtain rfl:=aB b9;refine zx hp5 hq5 ⟨R.1,qD R.2.1 (h.sl 2 Z).2⟩ Z (lY Z (zc 2 J Z (cq Z ?_)));obtain⟨y6,hy6,hF,S,_,_,_,_,Y,a6,c0,K⟩:=(h.sl 2 Z).1.ix hF;obtain rfl:=aB c0;refine zx Y a6 ⟨S.1,qD S.2.1 (h.sl 2 Z).2⟩ Z (lY Z (bK qa 2 1 ({ y6 with Af:={ y6.Af with As:=qj (y5.Af.Be+1) } }:ql) h Z hy6 Y a6 (dw y6) K Z Z Z (dw ({ y6 with Af:={ y6.Af with As:=qj (y5.Af.Be+1) } })) Z Z Z fun _ h=>X0 7 Z ?_));obtain rfl:=qe hF;have h:=h.p [2,0,3] Z;exact bX qa [oV (List ql) [oL i x1 f]] ⟨Z,G⟩ ⟨_,_,Z,Cv 1 1 o h Z Z⟩
  refine X0 5 Z (qp Z hF ?_ ?_)<;>intro hF
  .refine X0 3 Z ?_;obtain⟨y7,hy7,hF,T,_,_,_,_,a3,a7,c2,L⟩:=(h.sl 2 Z).1.ix hF;obtain rfl:=aB c2;refine zx a3 a7 ⟨T.1,qD T.2.1 (h.sl 2 Z).2⟩ Z (lY Z (bK qa 2 3 ({ y7 with Bb:={ y7.Bb with As:=(-1) } }:ql) h Z hy7 a3 a7 (dw y7) L Z Z Z (dw ({ y7 with Bb:={ y7.Bb with As:=(-1) } })) Z Z Z fun _ h=>X0 7 Z ?_));obtain rfl:=qe hF;have h:=h.p [2,0,3] Z;exact bX qa [oV (List ql) [oL i x1 f]] ⟨Z,G⟩ ⟨_,_,Z,Cv 1 1 o h Z Z⟩
  refine X0 5 Z (qp Z hF ?_ ?_)<;>intro hF
  .refine X0 3 Z ?_;obtain⟨y8,hy8,hF,W,_,_,_,_,a4,a8,c3,M⟩:=(h.sl 2 Z).1.ix hF;obtain rfl:=aB c3;refine zx a4 a8 ⟨W.1,qD W.2.1 (h.sl 2 Z).2⟩ Z (lY Z (bK qa 2 2 ({ y8 with Af:={ y8.Af with Be:=1000000000 } }:ql) h Z hy8 a4 a8 (dw y8) M Z Z Z (dw ({ y8 with Af:={ y8.Af with Be:=1000000000 } })) Z Z Z fun _ h=>X0 7 Z ?_));obtain rfl:=qe hF;have h:=h.p [2,0,3] Z;exact bX qa [oV (List ql) [oL i x1 f]] ⟨Z,G⟩ ⟨_,_,Z,Cv 1 1 o h Z Z⟩
  refine X0 7 Z ?_;obtain rfl:=qe hF;have h:=h.p [2,0,3] Z;exact bX qa [oV (List ql) [oL i x1 f]] ⟨Z,G⟩ ⟨_,_,Z,Cv 1 1 o h Z Z⟩
 refine X0 6 Z ?_;obtain rfl:=qe hF;have h:=h.p [1,2,3] Z;exact bX qa [oV (List ql) [oL i x1 f]] ⟨Z,G⟩ ⟨_,_,Z,Cv 1 1 o h Z Z⟩
def rv(n:Nat)(s:qb):Option (qf×qG×(List Int)×(List ql)×Int×Int):=(ph n (⟨s.code,s.at_,s.seed⟩:qb)).bind fun(r1,y,z)=>(ow n (⟨s.code,y,z⟩:qb)).bind fun|(v,A,B)=>(qt n (⟨s.code,A,B⟩:qb) 3).bind fun|(C,t,u)=>(bif (C==0) then(kV n (⟨s.code,t,u⟩:qb) 5 An).bind fun|(K,p,r)=>V (K,p,r) else V (r1,t,u)).bind fun|(c,i8,D)=>(ou n (⟨s.code,i8,D⟩:qb) c).bind fun(x,a,b)=>((kT n c).bind fun J=>bif J then bif ((x.length:Int)==0) then(qt n (⟨s.code,a,b⟩:qb) 6).bind fun(k,l,m)=>V (l,m,decide (k > 0)) else V (a,b,Cd) else V (a,b,Cd)).bind fun(d,f,b1)=>bif b1 then(uT n c).bind fun F=>(kJ n (⟨s.code,d,f⟩:qb) c).bind fun|(H,g,h)=>V (c,v,F,H,g,h) else(kJ n (⟨s.code,d,f⟩:qb) c).bind fun|(I,i16,i)=>V (c,v,x,I,i16,i)
theorem CK{n K w F}{s:qb}{g p1 o}(h0:SH K w (xb g s p1 o s.at_ s.seed::F))(ha1:qm.R w (Fr K F) s (ao s p1 o)){r:qf×qG×(List Int)×(List ql)×Int×Int}(hF:rv n s=V r):wX prog 91 [vp g] w (fun us w'=>∃S1 cs1 S2 cs2 S3 cs3,us=[oV qf cs1,oV qG (bZ r.2.1),oV (List Int) cs2,oV (List ql) cs3]/\SH K w' (oG (fun _=>False) S1 [ti (r.1:qf) cs1]::oG (fun _=>False) S2 [ti (r.2.2.1:List Int) cs2]::oG (fun _=>False) S3 [ti (r.2.2.2.1:List ql) cs3]::xb g s p1 o r.2.2.2.2.1 r.2.2.2.2.2::F)):=by
 have h:=Da h0 ha1;refine cp func91 Z (m:=41) Z Z (dE (qi qa h Z Z Z fun _ p h=>qi qa h Z Z Z fun _ u h=>X0 6 Z ?_));have h:=h.p [2,0,1,3] Z;obtain⟨⟨r1,i1,i2⟩,hr1,hF⟩:=qc hF;refine bA (cB 147 Z) (AN (s:=s) h (show qm.R _ _ (s:qb) _ from⟨[oL p1 s.code o],[vi s.at_,vi s.seed],Z,⟨_,_,Z,(qE (h.frG 3 0 1 Z Z Z)).1⟩,⟨[vi s.at_],[vi s.seed],Z,Z,Z⟩⟩) hr1) Z Z Z Z ?_;rintro _ _ ⟨S4,_,rfl,h⟩;have hr2:=h.grpS 0 0 Z Z;obtain⟨p2,k2,p3,k3,p4,k4,p5,k5,p6,k6,rfl,_,_,_,_,_⟩:=qW hr2;replace h:SH _ _ [oG (fun _=>False) S4 [ti (r1:qf) (qN r1 p2 p3 p4 p5 p6 k2 k3 k4 k5 k6)],xb g s p1 o i1 i2,oX u MF 36,oX p RG 34,xf K w F s p1 o]:=h;refine qi qa h Z Z Z fun _ v h=>zs 0 h Z fun _ h=>X0 4 Z ?_;have h:=h.p [2,0,1,3,4,5] Z;obtain⟨⟨M,_,_⟩,hr4,hF⟩:=qc hF;refine bA (cB 148 Z) (zH (s:=(⟨s.code,i1,i2⟩:qb)) h (show qm.R _ _ ((⟨s.code,i1,i2⟩:qb):qb) _ from⟨[oL p1 s.code o],[vi i1,vi i2],Z,⟨_,_,Z,(qE (h.frG 5 0 1 Z Z Z)).1⟩,⟨[vi i1],[vi i2],Z,Z,Z⟩⟩) hr4) Z Z Z Z ?_;rintro _ _ ⟨rfl,h⟩;dsimp only at h;refine qi qa h Z Z Z fun _ y h=>zs 0 h Z fun _ h=>X0 5 Z ?_;have h:=h.p [1,0,2,3,4,5,6] Z;obtain⟨⟨_,i6,i7⟩,hr5,hF⟩:=qc hF;refine qdP h ((qE (h.frG 6 0 1 Z Z Z)).1) hr5 Z Z Z fun _ h=>X0 2 Z ?_;obtain⟨KF2,S,_,hF,Q⟩:=bindE hF;refine bd (fun e w'=>∃P i H A I B J C d a f c i8 O,KF2 (i,i8,O)=V r/\e=[(0,vp g),(2,vp p),(3,vp u),(6,vp v),(7,vp y)]/\SH K w' [oG (fun _=>False) P [ti (i:qf) (qN i H I J d f A B C a c)],xb g s p1 o i8 O,oX y (bZ M) 36,oX v (qN i H I J d f A B C a c) 34,oX u MF 36,oX p RG 34,xf K w F s p1 o]) ?_ ?_
 .refine qp Z hF ?_ ?_<;>intro hF
  .refine X0 2 Z ?_;obtain⟨⟨r9,i21,i22⟩,Y,hF⟩:=qc hF;refine bA (cB 149 Z) (lu (s:=(⟨s.code,i6,i7⟩:qb)) (most:=5) (wild:=An) h (show qm.R _ _ ((⟨s.code,i6,i7⟩:qb):qb) _ from⟨[oL p1 s.code o],[vi i6,vi i7],Z,⟨_,_,Z,(qE (h.frG 6 0 1 Z Z Z)).1⟩,⟨[vi i6],[vi i7],Z,Z,Z⟩⟩) Y) Z Z Z Z ?_;rintro _ _ ⟨S10,_,rfl,h⟩;obtain⟨p16,k16,p17,k17,p18,k18,p19,k19,p20,k20,rfl,-,-,-,-,-⟩:=qW (h.own 0 Z);have h:=h.frzI 0 Z;replace h:SH _ _ [oG (fun _=>False) S10 [ti (r9:qf) (qN r9 p16 p17 p18 p19 p20 k16 k17 k18 k19 k20)],xb g s p1 o i21 i22,oX y (bZ M) 36,oX v (qN r1 p2 p3 p4 p5 p6 k2 k3 k4 k5 k6) 34,oG (fun _=>False) S4 [ti (r1:qf) (qN r1 p2 p3 p4 p5 p6 k2 k3 k4 k5 k6)],oX u MF 36,oX p RG 34,xf K w F s p1 o]:=h;refine zs 3 h Z fun _ h=>ac ?_;have h:=h.p [0,1,2,3,5,6,7] Z;cases qe hF;exact rG ⟨_,_,_,_,_,_,_,_,_,_,_,_,_,_,Q,Z,h⟩ Z
  refine ez ?_;have h:=h.p [3,0,1,2,4,5,6] Z;cases qe hF;exact rG ⟨_,_,_,_,_,_,_,_,_,_,_,_,_,_,Q,Z,h⟩ Z
 rintro _ _ ⟨P,i,H,A,I,B,J,C,d,a,f,c,i8,O,hF,rfl,h⟩;subst S;refine X1 4 3 h Z ?_;have h:=h.p [1,0,2,3,4,5,6] Z;obtain⟨⟨L,i10,i11⟩,hr6,hF⟩:=qc hF;refine bA (cB 150 Z) (zG (s:=(⟨s.code,i8,O⟩:qb)) (b:=i) h (show qm.R _ _ ((⟨s.code,i8,O⟩:qb):qb) _ from⟨[oL p1 s.code o],[vi i8,vi O],Z,⟨_,_,Z,(qE (h.frG 6 0 1 Z Z Z)).1⟩,⟨[vi i8],[vi O],Z,Z,Z⟩⟩) (h.frG 1 0 1 Z Z Z) hr6) Z Z Z Z ?_;rintro _ _ ⟨S6,_,rfl,h⟩;obtain⟨D,z,rfl,-⟩:=h.own 0 Z;replace h:SH _ _ [oW S6 (L:List Int) [oL D L z],xb g s p1 o i10 i11,oG (fun _=>False) P [ti (i:qf) (qN i H I J d f A B C a c)],oX y (bZ M) 36,oX v (qN i H I J d f A B C a c) 34,oX u MF 36,oX p RG 34,xf K w F s p1 o]:=h;refine X0 4 Z ?_;obtain⟨KF1,R,_,hF,N⟩:=bindE hF;refine bd (fun e w'=>∃k l b1,KF1 (k,l,b1)=V r/\e=[(0,vp g),(2,vp p),(3,vp u),(6,vp v),(7,vp y),(8,oL D L z),(32,.bool b1)]/\SH K w' [xb g s p1 o k l,oW S6 (L:List Int) [oL D L z],oG (fun _=>False) P [ti (i:qf) (qN i H I J d f A B C a c)],oX y (bZ M) 36,oX v (qN i H I J d f A B C a c) 34,oX u MF 36,oX p RG 34,xf K w F s p1 o]) ?_ ?_
 .refine X1 2 4 h Z (dF h hF (oC (h.grp 2 0 Z Z)) Z fun _ _ h hF=>cq Z (qh (t:=23) hF Z ?_ ?_))<;>intro hF
  .refine X0 8 Z (qh (t:=28) hF Z ?_ ?_)<;>intro hF
   .refine X0 3 Z ?_;have h:=h.p [1,0,2,3,4,5,6,7] Z;obtain⟨⟨_,_,_⟩,X,hF⟩:=qc hF;refine qdP h ((qE (h.frG 7 0 1 Z Z Z)).1) X Z Z Z fun _ h=>X0 4 Z ?_;cases qe hF;exact rG ⟨_,_,_,N,Z,h⟩ Z
   refine X0 5 Z ?_;have h:=h.p [1,0,2,3,4,5,6,7] Z;cases qe hF;exact rG ⟨_,_,_,N,Z,h⟩ Z
  refine X0 10 Z ?_;have h:=h.p [1,0,2,3,4,5,6,7] Z;cases qe hF;exact rG ⟨_,_,_,N,Z,h⟩ Z
 rintro _ _ ⟨k,l,b1,hF,rfl,h⟩;subst R;refine qp Z hF ?_ ?_<;>intro hF
 .refine X1 2 4 h Z (uj h hF (IU (h.grp 2 0 Z Z)) Z fun r5 _ S7 p13 k13 h hF=>X0 3 Z (rA [] [4,5] h Z fun _ h=>M3 31 [0,1,2,3,4] 1 0 1 (h.p [4,5] Z) Z (Ao 5 63 Z ?_)));have h:=h.p [1,0,2,3,4,5,6,7,8] Z;obtain⟨⟨r6,i14,i15⟩,hr8,hF⟩:=qc hF;refine bA (cB 152 Z) (tf (Ce:=(⟨s.code,k,l⟩:qb)) (Cf:=i) h (show qm.R _ _ ((⟨s.code,k,l⟩:qb):qb) _ from⟨[oL p1 s.code o],[vi k,vi l],Z,⟨_,_,Z,(qE (h.frG 8 0 1 Z Z Z)).1⟩,⟨[vi k],[vi l],Z,Z,Z⟩⟩) (h.frG 3 0 1 Z Z Z) hr8) Z Z Z Z ?_;rintro _ _ ⟨S8,_,rfl,h⟩;obtain⟨p14,k14,rfl,-⟩:=h.own 0 Z;replace h:SH _ _ [oW S8 (r6:List ql) [oL p14 r6 k14],xb g s p1 o i14 i15,oW S7 (r5:List Int) [oL p13 r5 k13],oW S6 (L:List Int) [oL D L z],oG (fun _=>False) P [ti (i:qf) (qN i H I J d f A B C a c)],oX y (bZ M) 36,oX v (qN i H I J d f A B C a c) 34,oX u MF 36,oX p RG 34,xf K w F s p1 o]:=h;refine Ag (h.p [5,6] Z) (Ao 6 127 Z (zs 8 h Z fun _ h=>Ag (h.p [5,6] Z) (Ao 7 255 Z (zs 7 h Z fun _ h=>G0 1023 [8,9] (h.p [5,6] Z) Z (Ad ?_)))));have T:=h;have h:=h.grpAdd 4 Z (x:=(i:qf)) (h.grpS 4 0 Z Z);have h:=h.grpKeep [0] 4 Z;have h:=h.frzI 2 Z;have h:=h.grpAdd 2 Z (x:=(r5:List Int)) (h.grpS 2 0 Z Z);have h:=h.grpKeep [0] 2 Z;have h:=h.frzI 0 Z;have h:=h.grpAdd 0 Z (x:=(r6:List ql)) (h.grpS 0 0 Z Z);have h:=h.grpKeep [0] 0 Z;obtain rfl:=qe hF;have h:=h.p [4,2,0,1,9] Z;exact bX qa [oV qf (qN i H I J d f A B C a c),oV qG (bZ M),oV (List Int) [oL p13 r5 k13],oV (List ql) [oL p14 r6 k14]] ⟨⟨_,_,_,Z,Z,T.box 8 Z,Z⟩,⟨_,_,_,Z,Z,T.box 7 Z,Z⟩,Z,Z,G⟩ ⟨_,_,_,_,_,_,Z,Cv 1 1 h0 h Z Z⟩
 refine E1 (rA [] [3,4] h Z fun _ h=>M3 31 [0,1,2,3,4] 1 0 1 (h.p [3,4] Z) Z (Ao 5 63 Z ?_));obtain⟨⟨r7,i16,i17⟩,hr9,hF⟩:=qc hF;refine bA (cB 152 Z) (tf (Ce:=(⟨s.code,k,l⟩:qb)) (Cf:=i) h (show qm.R _ _ ((⟨s.code,k,l⟩:qb):qb) _ from⟨[oL p1 s.code o],[vi k,vi l],Z,⟨_,_,Z,(qE (h.frG 7 0 1 Z Z Z)).1⟩,⟨[vi k],[vi l],Z,Z,Z⟩⟩) (h.frG 2 0 1 Z Z Z) hr9) Z Z Z Z ?_;rintro _ _ ⟨S9,_,rfl,h⟩;obtain⟨p15,k15,rfl,-⟩:=h.own 0 Z;replace h:SH _ _ [oW S9 (r7:List ql) [oL p15 r7 k15],xb g s p1 o i16 i17,oW S6 (L:List Int) [oL D L z],oG (fun _=>False) P [ti (i:qf) (qN i H I J d f A B C a c)],oX y (bZ M) 36,oX v (qN i H I J d f A B C a c) 34,oX u MF 36,oX p RG 34,xf K w F s p1 o]:=h;refine Ag (h.p [4,5] Z) (Ao 6 127 Z (zs 7 h Z fun _ h=>Ag (h.p [4,5] Z) (Ao 7 255 Z (zs 6 h Z fun _ h=>G0 1023 [8,9] (h.p [4,5] Z) Z (Ad ?_)))));have W:=h;have h:=h.grpAdd 3 Z (x:=(i:qf)) (h.grpS 3 0 Z Z);have h:=h.grpKeep [0] 3 Z;have h:=h.frzI 2 Z;have h:=h.grpAdd 2 Z (x:=(L:List Int)) (h.grpS 2 0 Z Z);have h:=h.grpKeep [0] 2 Z;have h:=h.frzI 0 Z;have h:=h.grpAdd 0 Z (x:=(r7:List ql)) (h.grpS 0 0 Z Z);have h:=h.grpKeep [0] 0 Z;obtain rfl:=qe hF;have h:=h.p [3,2,0,1,8] Z;exact bX qa [oV qf (qN i H I J d f A B C a c),oV qG (bZ M),oV (List Int) [oL D L z],oV (List ql) [oL p15 r7 k15]] ⟨⟨_,_,_,Z,Z,W.box 7 Z,Z⟩,⟨_,_,_,Z,Z,W.box 6 Z,Z⟩,Z,Z,G⟩ ⟨_,_,_,_,_,_,Z,Cv 1 1 h0 h Z Z⟩
def sx(n:Nat)(s:qb):Option (bg×Int×Int):=(rv n (⟨s.code,s.at_,s.seed⟩:qb)).bind fun(r1,a,d,f,b,c)=>V ((⟨(⟨(⟨r1.Ar.Au⟩:qB),(⟨r1.Aa.Ab,r1.Aa.Am,r1.Aa.Ai⟩:qk),r1.Ah⟩:qf),(⟨a.Bh,a.Ba,a.Bd,a.Ay,a.Bc⟩:qG),d,f⟩:bg),b,c)
theorem EA{n C w F}{s:qb}{b p1 l}(N:SH C w (xb b s p1 l s.at_ s.seed::F))(H:qm.R w (Fr C F) s (ao s p1 l)){r:bg×Int×Int}(S:sx n s=V r):wX prog 46 [vp b] w (fun T w'=>∃S1 cs1,T=[oV bg cs1]/\SH C w' (oG (fun _=>False) S1 [ti (r.1:bg) cs1]::xb b s p1 l r.2.1 r.2.2::F)):=by
 have h:=Da N H;refine cp func46 Z (m:=19) Z Z (dE (qi qa h Z Z Z fun _ D h=>X0 4 Z ?_));have h:=h.p [1,0,2] Z;obtain⟨⟨r1,a,c,d,Q,R⟩,J,S⟩:=qc S;refine bA (cB 91 Z) (CK (s:=s) h (show qm.R _ _ (s:qb) _ from⟨[oL p1 s.code l],[vi s.at_,vi s.seed],Z,⟨_,_,Z,(qE (h.frG 2 0 1 Z Z Z)).1⟩,⟨[vi s.at_],[vi s.seed],Z,Z,Z⟩⟩) J) Z Z Z Z ?_;rintro _ _ ⟨S2,_,O,_,P,_,rfl,h⟩;have K:=h.grpS 0 0 Z Z;obtain⟨B,A,o,k3,i,f,k,g,v,p,rfl,_,_,_,_,_⟩:=qW K;have L:=h.grpS 1 0 Z Z;obtain⟨y,t,rfl,_⟩:=L;have M:=h.grpS 2 0 Z Z;obtain⟨z,u,rfl,_⟩:=M;replace h:SH _ _ [oG (fun _=>False) S2 [ti (r1:qf) (qN r1 B o i k v A k3 f g p)],oG (fun _=>False) O [ti (c:List Int) [oL y c t]],oG (fun _=>False) P [ti (d:List ql) [oL z d u]],xb b s p1 l Q R,oX D qdE 40,xf C w F s p1 l]:=h;refine qb0 Z (qi qa h Z Z Z fun _ _ h=>qi qa h Z Z Z fun _ _ h=>zs 1 h Z fun _ h=>zs 0 h Z fun _ h=>X2 9 1 0 h Z (dK (qC qa [0,1,2,3] [.tmp 14,.tmp 15,.tmp 16,.tmp 17] z8) Z (zs 6 h Z fun _ h=>ac ?_)));have I:=h;have h:=h.p [2,3,0,1,4,5,6,7] Z;have h:=SH.merge h;have h:=h.p [0,3,1,2,4,5,6] Z;have h:=SH.merge h;have h:=h.grpAdd 0 Z (x:=((⟨r1,a,c,d⟩:bg):bg)) (show qm.R _ _ ((⟨r1,a,c,d⟩:bg):bg) _ from⟨[oL B r1.Ar.Au A,oL o r1.Aa.Ab k3,oL i r1.Aa.Am f,oL k r1.Aa.Ai g,oL v r1.Ah p],[.string a.Bh,vi a.Ba,vi a.Bd,vi a.Ay,vi a.Bc,oL y c t,oL z d u],Z,⟨[oL B r1.Ar.Au A],[oL o r1.Aa.Ab k3,oL i r1.Aa.Am f,oL k r1.Aa.Ai g,oL v r1.Ah p],Z,⟨_,_,Z,(fN (h.grpS 0 0 Z Z)).1.1⟩,⟨[oL o r1.Aa.Ab k3,oL i r1.Aa.Am f,oL k r1.Aa.Ai g],[oL v r1.Ah p],Z,⟨[oL o r1.Aa.Ab k3],[oL i r1.Aa.Am f,oL k r1.Aa.Ai g],Z,⟨_,_,Z,(fN (h.grpS 0 0 Z Z)).2.1.1⟩,⟨[oL i r1.Aa.Am f],[oL k r1.Aa.Ai g],Z,⟨_,_,Z,(fN (h.grpS 0 0 Z Z)).2.2.1.1⟩,⟨_,_,Z,(fN (h.grpS 0 0 Z Z)).2.2.2.1.1⟩⟩⟩,⟨_,_,Z,(fN (h.grpS 0 0 Z Z)).2.2.2.2.1⟩⟩⟩,⟨[.string a.Bh,vi a.Ba,vi a.Bd,vi a.Ay,vi a.Bc],[oL y c t,oL z d u],Z,⟨[.string a.Bh],[vi a.Ba,vi a.Bd,vi a.Ay,vi a.Bc],Z,Z,⟨[vi a.Ba],[vi a.Bd,vi a.Ay,vi a.Bc],Z,Z,⟨[vi a.Bd],[vi a.Ay,vi a.Bc],Z,Z,⟨[vi a.Ay],[vi a.Bc],Z,Z,Z⟩⟩⟩⟩,⟨[oL y c t],[oL z d u],Z,(h.grpS 0 1 Z Z),(h.grpS 0 2 Z Z)⟩⟩⟩);have h:=h.grpKeep [0] 0 Z;obtain rfl:=qe S;have h:=h.p [0,3,5] Z;exact bX qa [oV bg [oL B r1.Ar.Au A,oL o r1.Aa.Ab k3,oL i r1.Aa.Am f,oL k r1.Aa.Ai g,oL v r1.Ah p,.string a.Bh,vi a.Ba,vi a.Bd,vi a.Ay,vi a.Bc,oL y c t,oL z d u]] ⟨⟨_,_,_,Z,Z,I.box 6 Z,Z⟩,G⟩ ⟨_,_,Z,Cv 1 1 N h Z Z⟩
def kK(s:qb)(p:Int)(g:Int):Nat->Int->Int->Int->Option (Int×Int)|0,_,_,_=>U|n+1,a,b,c=>(bif decide (c<12) then bif (p==0) then(qt n (⟨s.code,a,b⟩:qb) 16).bind fun(k,l,m)=>V (l,m,decide (k > 0)) else V (a,b,Cd) else V (a,b,Cd)).bind fun(d,f,b1)=>bif b1 then(qt n (⟨s.code,d,f⟩:qb) (if g > 1 then g else 1)).bind fun(h,i16,i)=>bif decide (h<g) then U else kK s p g n i16 i (qj (c+1)) else V (d,f)
def dM(s:qb)(l:List Bool)(h:Int):Nat->Int->Int->Int->Int->Option (Int×Int×Int)|0,_,_,_,_=>U|n+1,b,i32,c,a=>(bif decide (a<12) then bif (0==0) then(qt n (⟨s.code,b,i32⟩:qb) 16).bind fun(m,p,r)=>V (p,r,decide (m > 0)) else V (b,i32,Cd) else V (b,i32,Cd)).bind fun(i,k,b2)=>bif b2 then(qt n (⟨s.code,i,k⟩:qb) (if h > 1 then h else 1)).bind fun(d,f,g)=>bif decide (d<h) then(qF l d).bind fun t=>bif t then dM s l h n f g d (qj (a+1)) else dM s l h n f g c (qj (a+1)) else dM s l h n f g c (qj (a+1)) else V (i,k,c)
def rz(n:Nat)(s:qb)(j:bg):Option (Int×Int×Int):=(bS n j).bind fun|(U,k)=>((bT n (⟨(⟨j.Ac.Ar.Au⟩:qB),(⟨j.Ac.Aa.Ab,j.Ac.Aa.Am,j.Ac.Aa.Ai⟩:qk),j.Ac.Ah⟩:qf)).bind fun h=>(qt n (⟨s.code,s.at_,s.seed⟩:qb) (qj (h+2))).bind fun(l,m,p)=>(kK s k h n m p 0).bind fun(i8,r)=>V (qj (l-1),i8,r))|(V (⟨_,_,_,⟨t,_,_⟩⟩),_)=>((bT n (⟨(⟨j.Ac.Ar.Au⟩:qB),(⟨j.Ac.Aa.Ab,j.Ac.Aa.Am,j.Ac.Aa.Ai⟩:qk),j.Ac.Ah⟩:qf)).bind fun i=>(qt n (⟨s.code,s.at_,s.seed⟩:qb) (qj (i+2))).bind fun(a,b,c)=>(dM s t i n b c (qj (a-1)) 0).bind fun(d,f,g)=>V (g,d,f))
theorem CL{n b w F}{s:qb}{a p1 c}{j:bg}{cs1}(h0:SH b w (xb a s p1 c s.at_ s.seed::F))(ha1:qm.R w (Fr b F) s (ao s p1 c))(ha2:qm.R w (Fr b F) j cs1){r:Int×Int×Int}(hF:rz n s j=V r):wX prog 47 [vp a,gv j cs1] w (fun us w'=>us=[vi r.1]/\SH b w' (xb a s p1 c r.2.1 r.2.2::F)):=by
 have h:=Da h0 ha1;have hz1:=ha2;obtain⟨D,C,k,k3,g,d,i,f,o,l,K,I,L,J,rfl,_,_,_,_,_,_,_⟩:=dJ ha2;have h:=h.grpAdd 1 Z hz1;replace h:SH _ _ [xb a s p1 c s.at_ s.seed,oG (old b) (FS F) [ti (j:bg) (gl j D k g i o K L C k3 d f l I J),ti (s:qb) (ao s p1 c),same b w F]]:=h;refine cp func47 Z (m:=56) Z Z (dE (qJ h Z Z fun _ bb2 h=>X1 5 0 h Z ?_));obtain⟨_,hr1,hF⟩:=qc hF;refine GQ (cB 63 Z) (yS (h.grp 2 0 Z Z) hr1) Z Z Z Z ?_;rintro _ _ _ hs1 (⟨i1,rfl,rfl,rfl⟩|⟨S1,p9,ln1,k9,x1,S2,y,ln2,p,x2,S3,z,ln3,u,Q,H,S4,A,ln4,v,x4,S5,B,ln5,x,x5,rfl,rfl,rfl⟩)
 .replace h:SH _ _ [oX bb2 (gl j D k g i o K L C k3 d f l I J) 40,xb a s p1 c s.at_ s.seed,oG (old b) (FS F) [ti (j:bg) (gl j D k g i o K L C k3 d f l I J),ti (s:qb) (ao s p1 c),same b w F]]:=SH.appendN h hs1 (show EL [] from trivial);refine X1 10 0 h Z (mN h hF (dL (show qm.R _ _ (j.Ac:qf) _ from⟨[oL D j.Ac.Ar.Au C],[oL k j.Ac.Aa.Ab k3,oL g j.Ac.Aa.Am d,oL i j.Ac.Aa.Ai f,oL o j.Ac.Ah l],Z,⟨_,_,Z,(iV (h.grp 2 0 Z Z)).1.1⟩,⟨[oL k j.Ac.Aa.Ab k3,oL g j.Ac.Aa.Am d,oL i j.Ac.Aa.Ai f],[oL o j.Ac.Ah l],Z,⟨[oL k j.Ac.Aa.Ab k3],[oL g j.Ac.Aa.Am d,oL i j.Ac.Aa.Ai f],Z,⟨_,_,Z,(iV (h.grp 2 0 Z Z)).2.1.1⟩,⟨[oL g j.Ac.Aa.Am d],[oL i j.Ac.Aa.Ai f],Z,⟨_,_,Z,(iV (h.grp 2 0 Z Z)).2.2.1.1⟩,⟨_,_,Z,(iV (h.grp 2 0 Z Z)).2.2.2.1.1⟩⟩⟩,⟨_,_,Z,(iV (h.grp 2 0 Z Z)).2.2.2.2.1.1⟩⟩⟩)) Z fun r2 _ h hF=>X0 7 Z ?_);have h:=h.p [1,0,2] Z;obtain⟨⟨i2,_,_⟩,hr3,hF⟩:=qc hF;refine lZ h (h.frG 2 1 1 Z Z Z) hr3 Z Z Z fun _ h=>X0 8 Z ?_;have h:=h.grpKeep [1,2] 2 Z;obtain⟨KF1,hKF1,o2,hF,hK1⟩:=bindE hF;refine bd (fun e w'=>∃i8 i9,KF1 (i8,i9)=V r/\e=[(8,vi (qj (i2-1)))]/\SH b w' [xb a s p1 c i8 i9,xf b w F s p1 c]) ?_ ?_
  .refine qr ?_;have h:=h.p [0,2] Z;refine rL (fun m e w'=>∃T W M,kK s i1 r2 m T W M=V o2/\e=[(0,vp a),(5,.pointer U),(6,vi i1),(7,vi r2),(8,vi (qj (i2-1))),(9,vi M)]/\SH b w' [xb a s p1 c T W,xf b w F s p1 c]) n ⟨_,_,_,hF,Z,h⟩ Z ?_;rintro m1 _ _ ⟨T,W,M,hF,rfl,h⟩;rcases m1 with _|m1
   .cases hF
   refine qc3 ?_;obtain⟨KF2,hKF2,_,hF,R⟩:=bindE hF;refine bd (fun e w'=>∃X Y b1,KF2 (X,Y,b1)=V o2/\e=[(0,vp a),(5,.pointer U),(6,vi i1),(7,vi r2),(8,vi (qj (i2-1))),(9,vi M),(34,.bool b1)]/\SH b w' [xb a s p1 c X Y,xf b w F s p1 c]) ?_ ?_
   .refine X0 4 Z (qh (t:=26) hF Z ?_ ?_)<;>intro hF
    .refine X0 6 Z (qh (t:=30) hF Z ?_ ?_)<;>intro hF
     .refine X0 3 Z ?_;obtain⟨⟨_,_,_⟩,hr5,hF⟩:=qc hF;refine lZ h (h.frG 1 0 1 Z Z Z) hr5 Z Z Z fun _ h=>X0 4 Z ?_;cases qe hF;exact rG ⟨_,_,_,R,Z,h⟩ Z
     refine X0 5 Z ?_;cases qe hF;exact rG ⟨_,_,_,R,Z,h⟩ Z
    refine X0 9 Z ?_;cases qe hF;exact rG ⟨_,_,_,R,Z,h⟩ Z
   rintro _ _ ⟨X,Y,b1,hF,rfl,h⟩;subst hKF2;refine qp Z hF ?_ ?_<;>intro hF
   .refine X0 8 Z ?_;obtain⟨⟨_,_,_⟩,hr4,hF⟩:=qc hF;refine lZ h (h.frG 1 0 1 Z Z Z) hr4 Z Z Z fun _ h=>X0 8 Z (qh (t:=44) hF Z ?_ ?_)<;>intro hF
    .refine X0 3 Z ?_;cases hF
    exact X0 10 Z (ch Z Z (X0 7 Z (rK ⟨_,_,_,hF,Z,h⟩ Z)))
   refine qx Z ?_;cases qe hF;exact rG ⟨_,_,hK1,Z,h⟩ Z
  rintro _ _ ⟨i8,i9,hF,rfl,h⟩;subst hKF1;refine X0 5 Z ?_;obtain rfl:=qe hF;exact bX qa [vi (qj (i2-1))] ⟨Z,G⟩ ⟨Z,Cv 1 1 h0 h Z Z⟩
 replace h:SH _ _ [oW S1 (x1:List qg) [oS p9 ln1 k9],oW S2 (x2:List qg) [oS y ln2 p],oW S3 (Q:List Bool) [oS z ln3 u],oX H [oL D j.Ac.Ar.Au C,oL k j.Ac.Aa.Ab k3,oL g j.Ac.Aa.Am d,oL i j.Ac.Aa.Ai f,oL o j.Ac.Ah l,.string j.Aj.Bh,vi j.Aj.Ba,vi j.Aj.Bd,vi j.Aj.Ay,vi j.Aj.Bc,oL K j.Av I,oL L j.Ap J,oS B ln5 x,oS A ln4 v,oS z ln3 u,oS y ln2 p,oS p9 ln1 k9] 144,oW S4 (x4:List Bool) [oS A ln4 v],oW S5 (x5:List qw) [oS B ln5 x],oX bb2 (gl j D k g i o K L C k3 d f l I J) 40,xb a s p1 c s.at_ s.seed,oG (old b) (FS F) [ti (j:bg) (gl j D k g i o K L C k3 d f l I J),ti (s:qb) (ao s p1 c),same b w F]]:=SH.appendN h hs1 ⟨fun _ h=>h,⟨fun _ h=>h,⟨fun _ h=>h,⟨fun _ h=>h,⟨fun _ h=>h,⟨fun _ h=>h,G⟩⟩⟩⟩⟩⟩;obtain rfl:=(h.sl 0 Z).2;obtain rfl:=(h.sl 1 Z).2;obtain rfl:=(h.sl 2 Z).2;obtain rfl:=(h.sl 4 Z).2;obtain rfl:=(h.sl 5 Z).2;refine X1 10 6 h Z (mN h hF (dL (show qm.R _ _ (j.Ac:qf) _ from⟨[oL D j.Ac.Ar.Au C],[oL k j.Ac.Aa.Ab k3,oL g j.Ac.Aa.Am d,oL i j.Ac.Aa.Ai f,oL o j.Ac.Ah l],Z,⟨_,_,Z,(iV (h.grp 8 0 Z Z)).1.1⟩,⟨[oL k j.Ac.Aa.Ab k3,oL g j.Ac.Aa.Am d,oL i j.Ac.Aa.Ai f],[oL o j.Ac.Ah l],Z,⟨[oL k j.Ac.Aa.Ab k3],[oL g j.Ac.Aa.Am d,oL i j.Ac.Aa.Ai f],Z,⟨_,_,Z,(iV (h.grp 8 0 Z Z)).2.1.1⟩,⟨[oL g j.Ac.Aa.Am d],[oL i j.Ac.Aa.Ai f],Z,⟨_,_,Z,(iV (h.grp 8 0 Z Z)).2.2.1.1⟩,⟨_,_,Z,(iV (h.grp 8 0 Z Z)).2.2.2.1.1⟩⟩⟩,⟨_,_,Z,(iV (h.grp 8 0 Z Z)).2.2.2.2.1.1⟩⟩⟩)) Z fun r3 _ h hF=>X0 7 Z ?_);have h:=h.p [7,0,1,2,3,4,5,6,8] Z;obtain⟨⟨_,_,_⟩,hr7,hF⟩:=qc hF;refine lZ h (h.frG 8 1 1 Z Z Z) hr7 Z Z Z fun _ h=>X0 8 Z ?_;obtain⟨KF3,hKF3,o7,hF,hK3⟩:=bindE hF;refine bd (fun e w'=>∃a3 a4 N,KF3 (a3,a4,N)=V r/\e=[(8,vi N)]/\SH b w' [xb a s p1 c a3 a4,xf b w F s p1 c]) ?_ ?_
 .refine qr ?_;have h:=h.p [0,1,2,3,4,5,6,8] Z;refine rL (fun m e w'=>∃a5 i32 O P,dM s Q r3 m a5 i32 O P=V o7/\e=[(0,vp a),(5,vp H),(6,vi 0),(7,vi r3),(8,vi O),(9,vi P)]/\SH b w' [xb a s p1 c a5 i32,oW S1 (x1:List qg) [oL p9 x1 k9],oW S2 (x2:List qg) [oL y x2 p],oW S3 (Q:List Bool) [oL z Q u],oX H [oL D j.Ac.Ar.Au C,oL k j.Ac.Aa.Ab k3,oL g j.Ac.Aa.Am d,oL i j.Ac.Aa.Ai f,oL o j.Ac.Ah l,.string j.Aj.Bh,vi j.Aj.Ba,vi j.Aj.Bd,vi j.Aj.Ay,vi j.Aj.Bc,oL K j.Av I,oL L j.Ap J,oL B x5 x,oL A x4 v,oL z Q u,oL y x2 p,oL p9 x1 k9] 144,oW S4 (x4:List Bool) [oL A x4 v],oW S5 (x5:List qw) [oL B x5 x],oG (old b) (FS F) [ti (j:bg) (gl j D k g i o K L C k3 d f l I J),ti (s:qb) (ao s p1 c),same b w F]]) n ⟨_,_,_,_,hF,Z,h⟩ Z ?_;rintro m2 _ _ ⟨a5,i32,O,P,hF,rfl,h⟩;rcases m2 with _|m2
  .cases hF
  refine qc3 ?_;obtain⟨KF4,hKF4,_,hF,S⟩:=bindE hF;refine bd (fun e w'=>∃a6 a7 b2,KF4 (a6,a7,b2)=V o7/\e=[(0,vp a),(5,vp H),(6,vi 0),(7,vi r3),(8,vi O),(9,vi P),(34,.bool b2)]/\SH b w' [xb a s p1 c a6 a7,oW S1 (x1:List qg) [oL p9 x1 k9],oW S2 (x2:List qg) [oL y x2 p],oW S3 (Q:List Bool) [oL z Q u],oX H [oL D j.Ac.Ar.Au C,oL k j.Ac.Aa.Ab k3,oL g j.Ac.Aa.Am d,oL i j.Ac.Aa.Ai f,oL o j.Ac.Ah l,.string j.Aj.Bh,vi j.Aj.Ba,vi j.Aj.Bd,vi j.Aj.Ay,vi j.Aj.Bc,oL K j.Av I,oL L j.Ap J,oL B x5 x,oL A x4 v,oL z Q u,oL y x2 p,oL p9 x1 k9] 144,oW S4 (x4:List Bool) [oL A x4 v],oW S5 (x5:List qw) [oL B x5 x],oG (old b) (FS F) [ti (j:bg) (gl j D k g i o K L C k3 d f l I J),ti (s:qb) (ao s p1 c),same b w F]]) ?_ ?_
  .refine X0 4 Z (qh (t:=26) hF Z ?_ ?_)<;>intro hF
   .refine X0 6 Z (qh (t:=30) hF Z ?_ ?_)<;>intro hF
    .refine X0 3 Z ?_;obtain⟨⟨_,_,_⟩,hr10,hF⟩:=qc hF;refine lZ h (h.frG 7 1 1 Z Z Z) hr10 Z Z Z fun _ h=>X0 4 Z ?_;cases qe hF;exact rG ⟨_,_,_,S,Z,h⟩ Z
    refine X0 5 Z ?_;cases qe hF;exact rG ⟨_,_,_,S,Z,h⟩ Z
   refine X0 9 Z ?_;cases qe hF;exact rG ⟨_,_,_,S,Z,h⟩ Z
  rintro _ _ ⟨a6,a7,b2,hF,rfl,h⟩;subst hKF4;refine qp Z hF ?_ ?_<;>intro hF
  .refine X0 8 Z ?_;obtain⟨⟨_,_,_⟩,hr8,hF⟩:=qc hF;refine lZ h (h.frG 7 1 1 Z Z Z) hr8 Z Z Z fun _ h=>X0 8 Z (qh (t:=44) hF Z ?_ ?_)<;>intro hF
   .refine X1 13 4 h Z ?_;obtain⟨_,_,hF,he1,_,_,_,_,hp1,hq1,rfl,hc3⟩:=(h.sl 3 Z).1.ix hF;refine zx hp1 hq1 ⟨he1.1,qD he1.2.1 (h.sl 3 Z).2⟩ Z (X0 1 Z (zc 0 hc3 Z (X0 2 Z (qp Z hF ?_ ?_))))<;>intro hF
    .exact X0 10 Z (rK ⟨_,_,_,_,hF,Z,h⟩ Z)
    exact X0 7 Z (rK ⟨_,_,_,_,hF,Z,h⟩ Z)
   exact X0 10 Z (ch Z Z (X0 7 Z (rK ⟨_,_,_,_,hF,Z,h⟩ Z)))
  refine qx Z ?_;have h:=h.grpKeep [1,2] 7 Z;have h:=h.p [0,7] Z;cases qe hF;exact rG ⟨_,_,_,hK3,Z,h⟩ Z
 rintro _ _ ⟨a3,a4,N,hF,rfl,h⟩;subst hKF3;refine X0 5 Z ?_;obtain rfl:=qe hF;exact bX qa [vi N] ⟨Z,G⟩ ⟨Z,Cv 1 1 h0 h Z Z⟩
def mj(code:List (gW .u8)):Nat->Int->Int->Option (Int×Int)|0,_,_=>U|n+1,b,a=>(bif decide (a<(code.length:Int)) then V (decide (a<64)) else V Cd).bind fun b1=>bif b1 then(qF code a).bind fun c=>mj code n ((qj ((qj (b*31))+(qj c.val))).tmod 2147483647) (qj (a+1)) else V (b,a)
def vZ(n:Nat)(code:List (gW .u8)):Option (Option qb):=(mj code n 12345 0).bind fun(a,_)=>V (V (⟨code,0,a⟩:qb))
theorem yM{n w}{code:List (gW .u8)}{cs1}(p:Ro w code cs1){r:Option qb}(F:vZ n code=V r):O6 prog 20 [gv code cs1] w (fun A L=>∃b g,r=(V (⟨code,0,g⟩:qb))/\A=[oV (Option qb) [vp b]]/\L=[oX b (cs1++[vi 0,vi g]) 114]):=by
 obtain⟨p1,k,rfl,s1⟩:=p;refine CE func20 Z (m:=34) Z Z (fun h=>?_);refine X0 7 Z (dK (qC qa [0,2] [.tmp 5,.const (vi (12345))] z8) Z (qJ h Z Z fun _ a h=>X0 7 Z ?_));obtain⟨o1,F,o⟩:=qc F;refine qr (rL (fun m e w'=>∃f i,mj code m f i=V o1/\e=[(0,oL p1 code k),(3,vp a),(4,vi i)]/\SH w w' [oX a [oL p1 code k,vi 0,vi f] 114]) n ⟨_,_,F,Z,h⟩ Z ?_);rintro y _ _ ⟨f,i,F,rfl,h⟩;rcases y with _|y
 .cases F
 refine qc3 ?_;obtain⟨l,d,_,F,c⟩:=bindE F;refine bd (fun e w'=>∃b1,l b1=V o1/\e=[(0,oL p1 code k),(3,vp a),(4,vi i),(15,.bool b1)]/\SH w w' [oX a [oL p1 code k,vi 0,vi f] 114]) ?_ ?_
 .refine X0 6 Z (qh (t:=12) F Z ?_ ?_)<;>intro F
  .refine X0 6 Z ?_;exact rH F c h Z
  refine X0 4 Z ?_;exact rH F c h Z
 rintro _ _ ⟨b1,F,rfl,h⟩;subst d;refine qp Z F ?_ ?_<;>intro F
 .refine TN (rA [15] [0] h Z fun _ h=>M1 255 [0,1,2,3,4,5,6,7] 0 (h.p [0] Z) Z ?_);obtain⟨_,_,F,u,_,_,_,_,v,x,rfl,s⟩:=s1.ix F;exact Ae 8 511 v x u (h.p [0] Z) Z (Al 9 1023 0 s (h.p [0] Z) Z (M0 8191 [10,11,12] (h.p [0] Z) Z (Ao 13 16383 Z (cq Z (G0 32767 [14] (h.p [0] Z) Z (Ao 15 65535 Z (zs 0 h Z fun _ h=>bL (fun z=>absurd (z 15 (by decide)) (by decide)) (Ad (X0 6 Z (rK ⟨_,_,F,Z,h⟩ Z))))))))))
 refine qx Z ?_;cases qe F;have F:=o;refine X0 5 Z ?_;obtain rfl:=qe F;exact CB qa [oV (Option qb) [vp a]] h ⟨Z,G⟩ ⟨a,f,Z,Z,Z⟩
def ol(n:Nat)(code:List (gW .u8)):Option (bg×Int):=(vZ n code).bind fun o=>match o with|some (⟨_,_,b⟩)=>((sx n (⟨code,0,b⟩:qb)).bind fun(a,c,d)=>(rz n (⟨code,c,d⟩:qb) a).bind fun(f,_,_)=>V (a,f))|_=>U
theorem AL{A}(S:∀b,A b->old w b){code:List (gW .u8)}(g:qm.R w A code cs1){r:bg×Int}(F:ol n code=V r):FM prog 19 [gv code cs1] w A r:=by
 obtain⟨p1,Q,rfl,s1⟩:=g;have R:=Rg.start S;refine kY func19 Z (m:=14) Z Z (fun h=>?_);refine dE (qi qa h Z Z Z fun _ c h=>X0 5 Z ?_);obtain⟨_,k,F⟩:=qc F;refine GQ (cB 20 Z) (yM ⟨_,_,Z,(h.oldS (s1.mono R.old))⟩ k) Z Z Z Z ?_;rintro _ _ _ t ⟨d,N,rfl,rfl,rfl⟩;replace h:SH _ _ [oX d [oL p1 code Q,vi 0,vi N] 114,oX c qdE 40]:=SH.appendN h t ⟨fun _ h=>h,G⟩;refine X0 5 Z ?_;obtain⟨⟨a,O,P⟩,l,F⟩:=qc F;refine bA (cB 46 Z) (EA (s:=(⟨code,0,N⟩:qb)) h (BV _ (h.frOldS (s1.mono R.old))) l) Z Z Z Z ?_;rintro _ _ ⟨S1,_,rfl,h⟩;have o:=h.grpS 0 0 Z Z;obtain⟨D,v,H,k3,I,x,J,y,K,z,L,B,M,C,rfl,_,_,_,_,_,_,_⟩:=dJ o;replace h:SH _ _ [oG (fun _=>False) S1 [ti (a:bg) (gl a D H I J K L M v k3 x y z B C)],oX d [oL p1 code Q,vi O,vi P] 114,oX c qdE 40]:=h;refine qi qa h Z Z Z fun _ _ h=>zs 0 h Z fun _ h=>O2 (rA [] [0] h Z fun _ h=>M2 7 [0,1,2] 0 0 (h.p [0] Z) Z (Ao 3 15 Z ?_));have h:=h.p [2,0,1,3] Z;obtain⟨⟨f,_,_⟩,p,F⟩:=qc F;refine bA (cB 47 Z) (CL (s:=(⟨code,O,P⟩:qb)) (j:=a) h (BV _ (h.frOldS (s1.mono R.old))) (h.frG 2 0 1 Z Z Z) p) Z Z Z Z ?_;rintro _ _ ⟨rfl,h⟩;dsimp only at h;refine Ag (h.p [1] Z) (Ao 4 31 Z (zs 3 h Z fun _ h=>G0 63 [5] (h.p [1] Z) Z (Ad ?_)));obtain rfl:=qe F;have u:la.Rs (ρ:=(bg×Int)) h.wc (xC A w h.wc) (a,f) [oV bg (gl a D H I J K L M v k3 x y z B C),oV Int [vi f]]:=⟨_,_,Z,(R.outR h (qm.mono (Rg.grpR 2 0 h Z Z) (fun _ T=>T.elim (fun h=>h.elim) .inr))),⟨_,Z,Z⟩⟩;have i:=h;have h:=h.p [0,1,3] Z;exact mR qa (ρ:=(bg×Int)) (r:=(a,f)) [oV bg (gl a D H I J K L M v k3 x y z B C),oV Int [vi f]] h ⟨⟨_,_,_,Z,Z,i.box 3 Z,Z⟩,Z,G⟩ u
def fK(n:Nat)(code:List (gW .u8)):Option (bg×Int×Int×Int):=(ol n code).bind fun(s,t)=>(dj ([(⟨6⟩:gW .u8)]:List (gW .u8)) code).bind fun x1=>(vZ n x1).bind fun o=>match o with|some (⟨_,_,g⟩)=>((qt n (⟨x1,0,g⟩:qb) 2).bind fun(h,i,k)=>(qt n (⟨x1,i,k⟩:qb) 24).bind fun(l,m,p)=>(qt n (⟨x1,m,p⟩:qb) 6).bind fun(i8,r,a)=>(qt n (⟨x1,r,a⟩:qb) 12).bind fun(b,c,d)=>(qt n (⟨x1,c,d⟩:qb) 24).bind fun(f,_,_)=>V (s,t,qj (h+(qj (l.tdiv 23))),qj ((qj (i8+(qj (18*(qj (b.tdiv 11))))))-(qj (f.tdiv 23)))))|_=>U
theorem ig{A}(hA:∀b,A b->old w b){code:List (gW .u8)}(a4:qm.R w A code cs1){r:bg×Int×Int×Int}(F:fK n code=V r):FM prog 6 [gv code cs1] w A r:=by
 obtain⟨_,_,rfl,s1⟩:=a4;have hg:=Rg.start hA;refine kY func6 Z (m:=39) Z Z (fun h=>?_);refine dE (qi qa h Z Z Z fun _ Y h=>X0 7 Z ?_);obtain⟨⟨k,x⟩,a6,F⟩:=qc F;refine zC (k,x) hg h (cB 19 Z) (AL (hg.atB h) ⟨_,_,Z,(hg.inBS h s1)⟩ a6) Z Z Z Z fun _ _ S1 h b7=>?_;obtain⟨_,_,rfl,t,b8⟩:=dA b7;have a7:=t;obtain⟨P,J,Q,k3,R,K,S,L,T,M,W,N,X,O,rfl,_,_,_,_,_,_,_⟩:=dJ t;have h:=h.grpAdd 0 Z a7;obtain⟨_,rfl,u⟩:=mS b8;have hr5:=u;obtain rfl:=u;refine EK Z (qi qa h Z Z Z fun _ e h=>zs 0 h Z fun _ h=>X0 4 Z (qv qa [.const (.int .u8 (6))] _ ([(⟨6⟩:gW .u8)]:List (gW .u8)) h z9 ⟨Z,G⟩ Z fun _ _ _ h=>cq Z ?_));obtain⟨x1,l,F⟩:=qc F;obtain⟨g1,l⟩:=qH l;refine bo qa 0 h Z (h.oldS (s1.mono hg.old)) Z z9 g1 l Z fun _ a o S3 h=>?_;obtain⟨_,a8,F⟩:=qc F;refine GQ (cB 20 Z) (yM (h.own 0 Z) a8) Z Z Z Z ?_;rintro _ _ _ b6 ⟨a3,v,rfl,rfl,rfl⟩;replace h:SH _ _ [oX a3 [oL a x1 o,vi 0,vi v] 114,oW S3 (x1:List (gW .u8)) [oL a x1 o],oX e (gl k P Q R S T W X J k3 K L M N O) 40,oG A S1 [ti (k:bg) (gl k P Q R S T W X J k3 K L M N O)],oX Y qdE 40]:=SH.appendN h b6 ⟨fun _ h=>h,G⟩;refine X0 5 Z ?_;obtain⟨⟨y,z,B⟩,a9,F⟩:=qc F;refine bA (cB 21 Z) (lj (Ce:=(⟨x1,0,v⟩:qb)) (Cf:=2) h (show qm.R _ _ ((⟨x1,0,v⟩:qb):qb) _ from⟨[oL a x1 o],[vi 0,vi v],Z,(h.frO 1 1 Z Z),⟨[vi 0],[vi v],Z,Z,Z⟩⟩) a9) Z Z Z Z ?_;rintro _ _ ⟨rfl,h⟩;dsimp only at h;refine cq Z ?_;obtain⟨⟨C,D,H⟩,b4,F⟩:=qc F;refine bA (cB 21 Z) (lj (Ce:=(⟨x1,z,B⟩:qb)) (Cf:=24) h (show qm.R _ _ ((⟨x1,z,B⟩:qb):qb) _ from⟨[oL a x1 o],[vi z,vi B],Z,(h.frO 1 1 Z Z),⟨[vi z],[vi B],Z,Z,Z⟩⟩) b4) Z Z Z Z ?_;rintro _ _ ⟨rfl,h⟩;dsimp only at h;refine X0 5 Z (rA [] [2] h Z fun _ h=>M1 1071 [0,1,2,3,5,10] 0 (h.p [2] Z) Z (Ao 4 1087 Z ?_));obtain⟨⟨i8,I,c⟩,b5,F⟩:=qc F;refine bA (cB 21 Z) (lj (Ce:=(⟨x1,D,H⟩:qb)) (Cf:=6) h (show qm.R _ _ ((⟨x1,D,H⟩:qb):qb) _ from⟨[oL a x1 o],[vi D,vi H],Z,(h.frO 1 1 Z Z),⟨[vi D],[vi H],Z,Z,Z⟩⟩) b5) Z Z Z Z ?_;rintro _ _ ⟨rfl,h⟩;dsimp only at h;refine Ag (h.p [2] Z) (Ao 6 1151 Z ?_);obtain⟨⟨d,f,g⟩,p,F⟩:=qc F;refine bA (cB 21 Z) (lj (Ce:=(⟨x1,I,c⟩:qb)) (Cf:=12) h (show qm.R _ _ ((⟨x1,I,c⟩:qb):qb) _ from⟨[oL a x1 o],[vi I,vi c],Z,(h.frO 1 1 Z Z),⟨[vi I],[vi c],Z,Z,Z⟩⟩) p) Z Z Z Z ?_;rintro _ _ ⟨rfl,h⟩;dsimp only at h;refine G0 2047 [7,8,9] (h.p [2] Z) Z (Ao 11 4095 Z ?_);obtain⟨⟨i,_,_⟩,s,F⟩:=qc F;refine bA (cB 21 Z) (lj (Ce:=(⟨x1,f,g⟩:qb)) (Cf:=24) h (show qm.R _ _ ((⟨x1,f,g⟩:qb):qb) _ from⟨[oL a x1 o],[vi f,vi g],Z,(h.frO 1 1 Z Z),⟨[vi f],[vi g],Z,Z,Z⟩⟩) s) Z Z Z Z ?_;rintro _ _ ⟨rfl,h⟩;dsimp only at h;refine G0 16383 [12,13] (h.p [2] Z) Z (Ao 14 32767 Z (zs 4 h Z fun _ h=>G0 262143 [15,16,17] (h.p [2] Z) Z (Ad ?_)));obtain rfl:=qe F;have b9:la.Rs (ρ:=(bg×Int×Int×Int)) h.wc (xC A w h.wc) (k,x,qj (y+(qj (C.tdiv 23))),qj ((qj (i8+(qj (18*(qj (d.tdiv 11))))))-(qj (i.tdiv 23)))) [oV bg (gl k P Q R S T W X J k3 K L M N O),oV Int [vi x],oV Int [vi (qj (y+(qj (C.tdiv 23))))],oV Int [vi (qj ((qj (i8+(qj (18*(qj (d.tdiv 11))))))-(qj (i.tdiv 23))))]]:=⟨_,_,Z,(hg.outR h (Rg.grpR 3 0 h Z Z)),⟨_,_,Z,Z,⟨_,_,Z,Z,⟨_,Z,Z⟩⟩⟩⟩;have a5:=h;have h:=h.p [0,1,2,4] Z;exact mR qa (ρ:=(bg×Int×Int×Int)) (r:=(k,x,qj (y+(qj (C.tdiv 23))),qj ((qj (i8+(qj (18*(qj (d.tdiv 11))))))-(qj (i.tdiv 23))))) [oV bg (gl k P Q R S T W X J k3 K L M N O),oV Int [vi x],oV Int [vi (qj (y+(qj (C.tdiv 23))))],oV Int [vi (qj ((qj (i8+(qj (18*(qj (d.tdiv 11))))))-(qj (i.tdiv 23))))]] h ⟨⟨_,_,_,Z,Z,a5.box 4 Z,Z⟩,Z,Z,Z,G⟩ b9
end Go.Fw


namespace Go.Fw
open Go
set_option maxRecDepth 100000
def gj(code:List (gW .u8)):Prop:=code.length<=1048576/\∀x,x∈code->WH x
structure dO(code:List (gW .u8))(a s:Int):Prop where
 a0:0<=a
 a1:a<=(code.length:Int)
 s0:0<=s
 s1:s<=2147483646
theorem qcR{x:Int}(h:0<=x):0<=x.tmod 2147483647/\x.tmod 2147483647<=2147483646:=by
 have a:=Int.tmod_nonneg 2147483647 h;have b:=Int.tmod_lt_of_pos x (show(0:Int)<2147483647 by decide);omega
theorem GS{x k:Int}(a:0<k):LF x k=V (x.tmod k):=by unfold LF;rw[if_neg (by omega)]
theorem bP(x:Int):mO (qj x):=by
 unfold mO qj;rw[Go.IntWalk.i64_left];unfold Go.RowKit.wrap64;omega
theorem bp{x:Int}(a:-4611686018427387904<=x)(b:x<=4611686018427387904):mO x:=by unfold mO;omega
theorem NU{code:List (gW .u8)}(g:gj code):∃s,Ev (fun n=>vZ n code) (V ⟨code,0,s⟩)/\dO code 0 s:=by
 have c:∀k j i,j+k=code.length->0<=i->i<=2147483646->qy (fun n=>mj code n i (j:Int)) (fun o=>0<=o.1/\o.1<=2147483646):=by
  intro k
  induction k with
  |zero=>
   intro j i p f b;refine Cw ?_;simp only[mj,qu (show code.length<=j by omega),Cj,jd];exact Cn ⟨f,b⟩
  |succ k ih=>
   intro j i p f b;have a:j<code.length:=by omega
   have t:=g.1;have r:=g.2 _ (jo a);unfold WH at r;refine Cw ?_;simp only[mj,qq a,Ci,jd,cj a,wS j];refine qy.bif (fun _=>?_) (fun _=>Cn ⟨f,b⟩);have e1:qj (i*31)=i*31:=qY (by omega) (by omega);have h:qj code[j].val=code[j].val:=qY (by omega) (by omega);have l:qj (i*31+code[j].val)=i*31+code[j].val:=qY (by omega) (by omega);rw[e1,h,l];have d:=qcR (show 0<=i*31+code[j].val by omega);exact ih (j+1) _ (by omega) d.1 d.2
 obtain⟨⟨s,j⟩,b,d,m⟩:=c code.length 0 12345 (by omega) (by decide) (by decide);exact⟨s,Ck b .done,⟨jV _,by omega,d,m⟩⟩
theorem aQ{code:List (gW .u8)}{a s:Int}(k:Int)(l:gj code)(h:dO code a s) :
  qy (fun n=>qt n ⟨code,a,s⟩ k) (fun o=>((0<=o.1/\(1<=k->o.1<k))/\(k<=1->o.1=0))/\dO code o.2.1 o.2.2):=by
 obtain⟨a0,a1,s0,s1⟩:=h;have z:=l.1;unfold qt;refine qy.bif (fun g=>Cn ⟨⟨⟨jV _,fun h=>by omega⟩,fun _=>rfl⟩,⟨a0,a1,s0,s1⟩⟩) (fun g=>?_);have g:1<k:=by have:=of_decide_eq_false g;omega
 refine qy.bif (fun i=>?_) (fun _=>?_)
 .have i:a<(code.length:Int):=of_decide_eq_true i;obtain⟨j,rfl⟩:∃j:Nat,a=(j:Int):=⟨a.toNat,by omega⟩;have c:j<code.length:=by omega
  have m:=l.2 _ (jo c);unfold WH at m;have p:qj code[j].val=code[j].val:=qY (by omega) (by omega);have t:qj ((j:Int)+1)=((j+1:Nat):Int):=sf (by omega);refine Co (cj c) ?_;rw[p,t];refine qy.bif (fun u=>?_) (fun u=>?_)
  .refine Co (GS (by omega)) (Cn ⟨⟨⟨Int.tmod_nonneg _ m.1,fun _=>Int.tmod_lt_of_pos _ (by omega)⟩,fun h=>by omega⟩,⟨by show(0:Int)<=((j+1:Nat):Int);omega,by show((j+1:Nat):Int)<=_;omega,s0,s1⟩⟩)
  .have d:qj (s*48271)=s*48271:=qY (by omega) (by omega);have f:qj (s*48271+code[j].val)=s*48271+code[j].val:=qY (by omega) (by omega);have r:qj (s*48271+code[j].val+1)=s*48271+code[j].val+1:=qY (by omega) (by omega);rw[d,f,r];have b:=qcR (show 0<=s*48271+code[j].val+1 by omega);exact Co (GS (by omega)) (Cn ⟨⟨⟨Int.tmod_nonneg _ b.1,fun _=>Int.tmod_lt_of_pos _ (by omega)⟩,fun h=>by omega⟩,⟨by show(0:Int)<=((j+1:Nat):Int);omega,by show((j+1:Nat):Int)<=_;omega,b.1,b.2⟩⟩)
 .have d:qj (s*48271)=s*48271:=qY (by omega) (by omega);have f:qj (s*48271+11)=s*48271+11:=qY (by omega) (by omega);rw[d,f];have b:=qcR (show 0<=s*48271+11 by omega);have v:0<=((s*48271+11).tmod 2147483647).tdiv 7:=Int.tdiv_nonneg b.1 (by decide);have y:((s*48271+11).tmod 2147483647).tdiv 7<=2147483646:=by
   rw[jM b.1];omega
  rw[qY (x:=((s*48271+11).tmod 2147483647).tdiv 7) (by omega) (by omega)];exact Co (GS (by omega)) (Cn ⟨⟨⟨Int.tmod_nonneg _ v,fun _=>Int.tmod_lt_of_pos _ (by omega)⟩,fun h=>by omega⟩,⟨a0,a1,b.1,b.2⟩⟩)
theorem dT{α:Type}{ok:α->Prop}{xs:List α}{y:α}(h:∀x,x∈xs->ok x)(b:ok y):∀x,x∈xs++[y]->ok x:=by
 intro x a;rcases List.mem_append.1 a with a|a
 .exact h x a
 .obtain rfl:=List.mem_singleton.1 a;exact b
theorem fH{α:Type}{xs:List α}{y:α}(h:xs.length<=1048576):dj xs [y]=V (xs++[y]):=dU (by simp;omega)
section
variable{code:List (gW .u8)}{a s:Int}
theorem P6{step:Int}(A:1<=step)(N:step<=1000)(i:gj code)(h:dO code a s) :
  qy (fun n=>nM n ⟨code,a,s⟩ step) (fun o=>(1<=o.1.length/\o.1.length<=3/\∀x,x∈o.1->mO x)/\dO code o.2.1 o.2.2):=by
 have d:∀(r:Nat) (x:List Int) (f g c:Int),dO code f g->x.length+r<=3->(∀y,y∈x->mO y)->mO c ->
   qy (fun n=>gF ⟨code,a,s⟩ step n x f g c (r:Int)) (fun o=>(o.1.length=x.length+r/\∀y,y∈o.1->mO y)/\dO code o.2.1 o.2.2.1):=by
  intro r
  induction r with
  |zero=>
   intro x f g c b B p hi;refine Cw ?_;simp only[gF];exact qy.ff Z (Cn ⟨⟨Z,p⟩,b⟩)
  |succ r ih=>
   intro x f g c b B p hi;refine Cw ?_;simp only[gF];refine qy.tt (by simp) (Co (fH (by omega)) (Cl (aQ step i b) ?_));rintro⟨H,t,u⟩ ⟨_,l⟩;have e:qj (((r+1:Nat):Int)-1)=(r:Int):=by rw[qY (by omega) (by omega)];omega
   dsimp only;rw[e];exact(ih (x++[c]) t u _ l (by rw[jg,jh];omega) (dT p hi) (bP _)).mono (fun o k=>⟨⟨by rw[k.1.1,jg,jh];omega,k.1.2⟩,k.2⟩)
 unfold nM;refine Cl (aQ step i h) ?_;rintro⟨D,O,P⟩ ⟨⟨⟨K,p1⟩,_⟩,b⟩;refine Cl (aQ 3 i b) ?_;rintro⟨v,I,J⟩ ⟨⟨⟨L,z⟩,_⟩,b⟩;dsimp only at K p1 L z b⊢;have T:=z (by decide);have S:=p1 A;obtain⟨m,C⟩:∃m:Nat,1+v=((m+1:Nat):Int):=⟨v.toNat,by omega⟩;rw[wO (1+v),C];refine Cl (d (m+1) [] I J D b (by simp;omega) (fun _ h=>by cases h) (bp (by omega) (by omega))) ?_;rintro⟨x1,Q,R,c,F⟩ ⟨⟨r1,M⟩,b⟩;exact Cn ⟨⟨by simp only at r1;simp at r1;dsimp only;omega,by simp only at r1;simp at r1;dsimp only;omega,M⟩,b⟩
theorem V0{c:Prop}[Decidable c]{x y:Int}(a:mO x)(b:mO y):mO (if c then x else y):=by split<;>assumption
theorem D9{base:Int}(k:gj code)(h:dO code a s) :
  qy (fun n=>tX n ⟨code,a,s⟩ base) (fun o=>tP o.1/\dO code o.2.1 o.2.2):=by
 unfold tX;refine Cl (P6 (by decide) (by decide) k h) ?_;rintro⟨r1,e,i2⟩ ⟨⟨l1,l2,r⟩,c⟩;refine Cl (P6 (by decide) (by decide) k c) ?_;rintro⟨f,Q,S⟩ ⟨⟨T,t,u⟩,c⟩;dsimp only at l1 l2 r T t u c⊢;have Y:r1.length*f.length<=3*3:=Nat.mul_le_mul l2 t;have l:∀(d j:Nat) (x:List Int) (m p:Int),dO code m p->j+d=r1.length*f.length->x.length=j->(∀y,y∈x->mO y) ->
   qy (fun n=>kx ⟨code,a,s⟩ base r1 f n x m p (j:Int)) (fun o=>(o.1.length<=9/\∀y,y∈o.1->mO y)/\dO code o.2.1 o.2.2.1):=by
  intro d
  induction d with
  |zero=>
   intro j x m p c B D g;refine Cw ?_;simp only[kx,LV (show r1.length<=1048576 by omega) (show f.length<=1048576 by omega)];have z:x.length<=9:=by omega
   exact qy.ff (qu (by omega)) (Cn ⟨⟨z,g⟩,c⟩)
  |succ d ih=>
   intro j x m p c B D g;refine Cw ?_;simp only[kx,LV (show r1.length<=1048576 by omega) (show f.length<=1048576 by omega)];refine qy.tt (qq (by omega)) (Cl (aQ 10 k c) ?_);rintro⟨i8,i9,F⟩ ⟨⟨⟨W,X⟩,_⟩,c⟩;dsimp only at W X c⊢;refine Co (b:=((j % f.length:Nat):Int)) (by rw[GS (by omega),Int.ofNat_tmod]) ?_;refine Cl (R:=fun o:Int×Int×Int=>dO code o.1 o.2.1/\mO o.2.2) ?_ ?_
   .refine qy.bif (fun i=>?_) (fun _=>Cn ⟨c,bP _⟩);have C:1<=j:=by
     rcases Nat.eq_zero_or_pos j with rfl|h2
     .simp at i
     .exact h2
    have e1:qj ((j:Int)-1)=((j-1:Nat):Int):=by rw[qY (by omega) (by omega)];omega
    rw[e1];refine Co (cj (show j-1<x.length by omega)) (Cl (aQ 20 k c) ?_);rintro⟨N,O,P⟩ ⟨_,c⟩;exact Cn ⟨c,V0 (bP _) (bP _)⟩
   .rintro⟨H,I,J⟩ ⟨c,hi⟩;dsimp only at c hi⊢;rw[wS j];refine qy.bif (fun i=>?_) (fun _=>?_)
    .have A:f.length<=j:=by have:=of_decide_eq_true i;omega
     have e1:qj ((j:Int)-(f.length:Int))=((j-f.length:Nat):Int):=by rw[qY (by omega) (by omega)];omega
     rw[e1];refine Co (cj (show j-f.length<x.length by omega)) (Cl (aQ 20 k c) ?_);rintro⟨K,L,M⟩ ⟨_,c⟩;refine Co (fH (by omega)) ?_;exact ih (j+1) _ _ _ c (by omega) (by rw[jg,jh];omega) (dT g (V0 (bP _) hi))
    .refine Co (fH (by omega)) ?_;exact ih (j+1) _ _ _ c (by omega) (by rw[jg,jh];omega) (dT g hi)
 refine Cl (l (r1.length*f.length) 0 [] Q S c (by omega) Z (fun _ h=>by cases h)) ?_;rintro⟨x1,i5,i6,i7⟩ ⟨⟨n1,v⟩,c⟩;dsimp only at n1 v c;exact Cn ⟨⟨⟨by dsimp only;omega,r⟩,⟨by dsimp only;omega,u⟩,⟨by dsimp only;omega,v⟩⟩,c⟩
theorem OA{base:Int}(d:gj code)(h:dO code a s) :
  qy (fun n=>im n ⟨code,a,s⟩ base) (fun o=>vz tP o.1/\dO code o.2.1 o.2.2):=by
 unfold im;refine Cl (D9 d h) ?_;rintro⟨r1,i,k⟩ ⟨f,b⟩;refine Cl (D9 d b) ?_;rintro⟨p,l,m⟩ ⟨g,b⟩;refine Cn ⟨⟨by simp,fun x c=>?_⟩,b⟩;rcases List.mem_cons.1 c with rfl|c
 .exact f
 .obtain rfl:=List.mem_singleton.1 c;exact g
theorem UA{kind f t sense:Int}(i:mO kind)(g:mO f)(k:mO t)(d:mO sense)(c:gj code)(h:dO code a s) :
  qy (fun n=>gP n ⟨code,a,s⟩ kind f t sense) (fun o=>zu o.1/\dO code o.2.1 o.2.2):=by
 unfold gP;refine qy.bif (fun _=>?_) (fun _=>?_)
 .refine Cl (aQ 10 c h) ?_;rintro⟨y,z,A⟩ ⟨_,b⟩;refine Cl (OA c b) ?_;rintro⟨r1,B,C⟩ ⟨l,b⟩;exact Cn ⟨⟨i,g,k,bp (x:=0) (by decide) (by decide),l,⟨jR _,fun _ h=>by cases h⟩⟩,b⟩
 .refine Cl (aQ 20 c h) ?_;rintro⟨D,F,H⟩ ⟨_,b⟩;refine Cl (OA c b) ?_;rintro⟨J,I,r⟩ ⟨m,b⟩;refine Cl (OA c b) ?_;rintro⟨K,u,v⟩ ⟨p,b⟩;exact Cn ⟨⟨i,g,k,d,m,p⟩,b⟩
end

section
variable{code:List (gW .u8)}{a s:Int}
theorem qbA{q:Nat}(h:q<=8):qj (2*(q:Int))=((q*2:Nat):Int):=by rw[qY (by omega) (by omega)];omega
theorem Ev.add{α:Type}{f:Nat->Option α}{r:α}(k:Nat)(h:∀m,f (m+k)=V r):Ev f r:=
 ⟨k,fun n a=>by obtain⟨m,rfl⟩:∃m,n=m+k:=⟨n-k,by omega⟩;exact h m⟩
def CU(k:Nat)(a:List Int):Prop:=∀(b:ByteArray) (ps:List bj) (i j:Int) (p:Nat),p<k->qy (fun n=>yf n ⟨b,1,ps,[],a,i,j⟩ (p:Int)) mO
theorem MS{k:Nat}{J:ByteArray}{c:List Int}(P:k<=3)(hl:c.length=2 ^ k)(D:CU k c)(B:LW J)(F:∀x,x∈c->mO x)(z:gj code)(h:dO code a s) :
  qy (fun n=>mJ n ⟨code,a,s⟩ J c) (fun o=>DE o.1/\dO code o.2.1 o.2.2):=by
 have Q:(2:Nat) ^ k<=8:=by
  have:(2:Nat) ^ k<=2 ^ 3:=Nat.pow_le_pow_right (by decide) P;simpa using this
 have v:∀(d j:Nat) (x:List bj) (i l:Int),dO code i l->j+d=k->x.length=j->(∀y,y∈x->zw y) ->
   qy (fun n=>mo ⟨code,a,s⟩ c n x i l ((2 ^ j:Nat):Int)) (fun o=>(o.1.length=k/\∀y,y∈o.1->zw y)/\dO code o.2.1 o.2.2.1):=by
  intro d
  induction d with
  |zero=>
   intro j x i l f A u g;refine Cw ?_;simp only[mo];have:j=k:=by omega
   subst this;exact qy.ff (qu (by omega)) (Cn ⟨⟨u,g⟩,f⟩)
  |succ d ih=>
   intro j x i l f A u g;refine Cw ?_;simp only[mo];have R:(2:Nat) ^ j<2 ^ k:=Nat.pow_lt_pow_right (by decide) (by omega);refine qy.tt (qq (by omega)) ?_;have t:j<4:=by omega
   refine Co (b:=([(⟨#[97]⟩:ByteArray),(⟨#[98]⟩:ByteArray),(⟨#[99]⟩:ByteArray),(⟨#[100]⟩:ByteArray)]:List ByteArray)[j]'(by simpa using t)) (by rw[u];exact cj (by simpa using t)) (Cl (aQ 9 z f) ?_);rintro⟨S,T,W⟩ ⟨_,f⟩;refine Co (fH (by omega)) ?_;have e:qj (2*((2 ^ j:Nat):Int))=((2 ^ (j+1):Nat):Int):=by
    rw[Nat.pow_succ];exact qbA (by omega)
   dsimp only;rw[e];refine ih (j+1) _ _ _ f (by omega) (by rw[jg,jh];omega) (dT g ⟨?_,bp (x:=1) (by decide) (by decide),bP _,G⟩);rcases j with _|_|_|_|j
   .show(1:Nat)<=1048576;decide
   .show(1:Nat)<=1048576;decide
   .show(1:Nat)<=1048576;decide
   .show(1:Nat)<=1048576;decide
   .omega
 unfold mJ;refine Cl (aQ 50 z h) ?_;rintro⟨K,i2,i3⟩ ⟨⟨⟨p0,p1⟩,_⟩,f⟩;refine Cl (aQ 80 z f) ?_;rintro⟨L,i5,i6⟩ ⟨⟨⟨q0,M⟩,_⟩,f⟩;dsimp only at p0 p1 q0 M;have p2:=p1 (by decide);have q2:=M (by decide);refine Cl (v k 0 [] i5 i6 f (by omega) Z (fun _ h=>by cases h)) ?_;rintro⟨x1,i7,i8,i9⟩ ⟨⟨H,m⟩,f⟩;dsimp only at H m f⊢;refine Co (fH (by omega)) ?_;have r:∀(d j:Nat) (x:List bi) (i l:Int),dO code i l->j+d=k->x.length<=j->(∀y,y∈x->zu y) ->
   qy (fun n=>kz ⟨code,a,s⟩ J c K L x1 (x1++[(⟨(⟨#[121]⟩:ByteArray),2,0,Cd⟩:bj)]) n x i l (j:Int)) (fun o=>(o.1.length<=k/\∀y,y∈o.1->zu y)/\dO code o.2.1 o.2.2.1):=by
  intro d
  induction d with
  |zero=>
   intro j x i l f A u g;refine Cw ?_;simp only[kz];have O:x.length<=k:=by omega
   exact qy.ff (qu (by omega)) (Cn ⟨⟨O,g⟩,f⟩)
  |succ d ih=>
   intro j x i l f A u g;refine Cw ?_;simp only[kz,wS j];refine qy.tt (qq (by omega)) (Cl (D _ _ _ _ j (by omega)) (fun r1 C=>?_));refine qy.bif (fun _=>?_) (fun _=>ih (j+1) x i l f (by omega) (by omega) g);refine Cl (UA (bp (by decide) (by decide)) (bp (by omega) (by omega)) (bp (by omega) (by omega)) C z f) ?_;rintro⟨r2,a4,a5⟩ ⟨N,f⟩;refine Co (fH (by omega)) ?_;exact ih (j+1) _ _ _ f (by omega) (by rw[jg,jh];omega) (dT g N)
 refine Cl (r k 0 [] i7 i8 f (by omega) (jR _) (fun _ h=>by cases h)) ?_;rintro⟨x4,X,Y,a3⟩ ⟨⟨I,p⟩,f⟩;dsimp only at I p f;refine Cn ⟨⟨B,bp (x:=1) (by decide) (by decide),⟨?_,?_⟩,⟨?_,p⟩,⟨?_,F⟩,bp (x:=K) (by omega) (by omega),bp (x:=L) (by omega) (by omega)⟩,f⟩
 .show(x1++_).length<=_;rw[jg,jh];omega
 .exact dT m ⟨by show(1:Nat)<=1048576;decide,bp (x:=2) (by decide) (by decide),bp (x:=0) (by decide) (by decide),G⟩
 .show x4.length<=_;omega
 .show c.length<=_;omega
theorem BZ{xs:List Int}(h:xs.all (fun x=>decide (-1000<=x)&&decide (x<=1000))=An):∀x,x∈xs->mO x:=by
 intro x a;have:=List.all_eq_true.1 h x a;simp only[je,decide_eq_true_eq] at this;exact bp (by omega) (by omega)
theorem YE{u:ByteArray}{kind edge:Int}(d:LW u)(m:mO kind)(B:mO edge)(c:gj code)(h:dO code a s) :
  qy (fun n=>lk n ⟨code,a,s⟩ u kind edge) (fun o=>DE o.1/\dO code o.2.1 o.2.2):=by
 have z:∀x:Int,-1000<=x->x<=1000->mO x:=fun x i k=>bp (by omega) (by omega);unfold lk;refine Cl (aQ 50 c h) ?_;rintro⟨r,T,W⟩ ⟨⟨⟨P,p1⟩,_⟩,b⟩;refine Cl (aQ 80 c b) ?_;rintro⟨t,X,Y⟩ ⟨⟨⟨Q,v⟩,_⟩,b⟩;dsimp only at P p1 Q v;have p2:=p1 (by decide);have q2:=v (by decide);refine Cl (aQ 9 c b) ?_;rintro⟨O,e,i9⟩ ⟨_,b⟩;refine Cl (aQ 9 c b) ?_;rintro⟨g,C,D⟩ ⟨_,b⟩;refine Cl (UA B (z _ (by decide) (by decide)) (z _ (by decide) (by decide)) (z _ (by decide) (by decide)) c b) ?_;rintro⟨r1,F,H⟩ ⟨i,b⟩;refine Cl (UA (z _ (by decide) (by decide)) (z _ (by decide) (by decide)) (z _ (by decide) (by decide)) (z _ (by decide) (by decide)) c b) ?_;rintro⟨R,I,J⟩ ⟨k,b⟩;refine Cl (UA (z _ (by decide) (by decide)) (z _ (by decide) (by decide)) (z _ (by decide) (by decide)) (z _ (by decide) (by decide)) c b) ?_;rintro⟨S,K,L⟩ ⟨y,b⟩;dsimp only at i k y b⊢;have l:∀x,x∈[r1,R,S]->zu x:=by
  intro x f;simp only[jN,jH,or_false] at f;rcases f with rfl|rfl|rfl<;>assumption
 have p:∀x,x∈[(⟨(⟨#[100]⟩:ByteArray),1,qj (1+O),Cd⟩:bj),(⟨(⟨#[99,107]⟩:ByteArray),1,qj (1+g),An⟩:bj),(⟨(⟨#[113]⟩:ByteArray),2,0,Cd⟩:bj)]->zw x:=by
  intro x f;simp only[jN,jH,or_false] at f;rcases f with rfl|rfl|rfl
  .exact⟨by show(1:Nat)<=1048576;decide,z 1 (by decide) (by decide),bP _,G⟩
  .exact⟨by show(2:Nat)<=1048576;decide,z 1 (by decide) (by decide),bP _,G⟩
  .exact⟨by show(1:Nat)<=1048576;decide,z 2 (by decide) (by decide),z 0 (by decide) (by decide),G⟩
 refine qy.bif (fun _=>?_) (fun _=>?_)
 .refine Cl (UA (z _ (by decide) (by decide)) (z _ (by decide) (by decide)) (z _ (by decide) (by decide)) (z _ (by decide) (by decide)) c b) ?_;rintro⟨r4,M,N⟩ ⟨A,b⟩;refine Co (fH (by simp)) ?_;exact Cn ⟨⟨d,m,⟨by simp,p⟩,⟨by simp,dT l A⟩,⟨jR _,fun _ h=>by cases h⟩,z r (by omega) (by omega),z t (by omega) (by omega)⟩,b⟩
 .exact Cn ⟨⟨d,m,⟨by simp,p⟩,⟨by simp,l⟩,⟨jR _,fun _ h=>by cases h⟩,z r (by omega) (by omega),z t (by omega) (by omega)⟩,b⟩
theorem qbj:CU 1 [1,0]:=by
 intro b ps i j p a;obtain rfl:p=0:=by omega
 exact⟨_,Ev.add 4 (fun m=>rfl),bp (by decide) (by decide)⟩
theorem qbk:CU 1 [0,1]:=by
 intro b ps i j p a;obtain rfl:p=0:=by omega
 exact⟨_,Ev.add 4 (fun m=>rfl),bp (by decide) (by decide)⟩
theorem qbl:CU 2 [1,1,1,0]:=by
 intro b ps i j p a;rcases p with _|_|p
 .exact⟨_,Ev.add 8 (fun m=>rfl),bp (by decide) (by decide)⟩
 .exact⟨_,Ev.add 8 (fun m=>rfl),bp (by decide) (by decide)⟩
 .omega
theorem qbm:CU 2 [0,1,1,0]:=by
 intro b ps i j p a;rcases p with _|_|p
 .exact⟨_,Ev.add 8 (fun m=>rfl),bp (by decide) (by decide)⟩
 .exact⟨_,Ev.add 8 (fun m=>rfl),bp (by decide) (by decide)⟩
 .omega
theorem qcQ:CU 3 [0,1,0,1,0,0,1,1]:=by
 intro b ps i j p a;rcases p with _|_|_|p
 .exact⟨_,Ev.add 12 (fun m=>rfl),bp (by decide) (by decide)⟩
 .exact⟨_,Ev.add 12 (fun m=>rfl),bp (by decide) (by decide)⟩
 .exact⟨_,Ev.add 12 (fun m=>rfl),bp (by decide) (by decide)⟩
 .omega
theorem qdi(c:gj code)(h:dO code a s):qy (fun n=>wa n ⟨code,a,s⟩) (fun o=>pE o.1/\dO code o.2.1 o.2.2):=by
 have z:∀x:Int,-1000<=x->x<=1000->mO x:=fun x f g=>bp (by omega) (by omega);unfold wa;refine Cl (MS (k:=1) (by decide) Z qbj (by show(3:Nat)<=1048576;decide) (BZ Z) c h) ?_;rintro⟨r1,F,H⟩ ⟨f,b⟩;refine Cl (MS (k:=1) (by decide) Z qbk (by show(3:Nat)<=1048576;decide) (BZ Z) c b) ?_;rintro⟨P,I,J⟩ ⟨g,b⟩;refine Cl (MS (k:=2) (by decide) Z qbl (by show(4:Nat)<=1048576;decide) (BZ Z) c b) ?_;rintro⟨Q,K,L⟩ ⟨v,b⟩;refine Cl (MS (k:=2) (by decide) Z qbm (by show(3:Nat)<=1048576;decide) (BZ Z) c b) ?_;rintro⟨R,M,N⟩ ⟨y,b⟩;refine Cl (MS (k:=3) (by decide) Z qcQ (by show(3:Nat)<=1048576;decide) (BZ Z) c b) ?_;rintro⟨S,O,i⟩ ⟨A,b⟩;refine Cl (YE (by show(4:Nat)<=1048576;decide) (z _ (by decide) (by decide)) (z _ (by decide) (by decide)) c b) ?_;rintro⟨T,l,m⟩ ⟨B,b⟩;refine Cl (YE (by show(5:Nat)<=1048576;decide) (z _ (by decide) (by decide)) (z _ (by decide) (by decide)) c b) ?_;rintro⟨W,p,r⟩ ⟨C,b⟩;refine Cl (YE (by show(5:Nat)<=1048576;decide) (z _ (by decide) (by decide)) (z _ (by decide) (by decide)) c b) ?_;rintro⟨X,t,u⟩ ⟨D,b⟩;refine Cn ⟨⟨⟨by simp,fun x d=>?_⟩⟩,b⟩;simp only[jN,jH,or_false] at d;rcases d with rfl|rfl|rfl|rfl|rfl|rfl|rfl|rfl<;>assumption
end

section
variable{code:List (gW .u8)}{a s:Int}
theorem DJ(b:gW .u8):(NX [b]).size=1:=rfl
theorem RQ{x y:ByteArray}(h:x.size+y.size<=1048576):UH x y=V (x++y):=by
 unfold UH;rw[if_pos];have:IntKind.i64.max=9223372036854775807:=rfl;omega
theorem U8:∀(d:Nat) (k:Int),d<=15->0<=k->k<((10 ^ (d+1):Nat):Int)->qy (fun n=>dH n k) (fun z=>z.size<=d+1):=by
 intro d
 induction d with
 |zero=>
  intro k f b c;refine Cw ?_;simp only[dH];refine qy.ff (by simp;omega) (qy.tt (by simp;omega) (Cn ?_));rw[DJ];exact jf _
 |succ d ih=>
  intro k f b c;refine Cw ?_;simp only[dH];refine qy.ff (by simp;omega) (qy.bif (fun _=>Cn (by rw[DJ];omega)) (fun h=>?_));have l:(10:Nat) ^ (d+1+1)<=10 ^ 17:=Nat.pow_le_pow_right (by decide) (by omega);have i:k<=9223372036854775807:=by
   have:(10:Nat) ^ 17<=9223372036854775807:=by decide
   omega
  have e:k.tdiv 10=k / 10:=jM b;have e1:qj (k.tdiv 10)=k / 10:=by rw[e];exact qY (by omega) (by omega)
  rw[e1];have a:k / 10<((10 ^ (d+1):Nat):Int):=by rw[Nat.pow_succ] at c;omega
  refine Cl (ih (k / 10) (by omega) (by omega) a) (fun m g=>?_);refine Co (RQ (by rw[DJ];omega)) (Cn ?_);rw[ByteArray.size_append,DJ];omega
theorem D4{k:Nat}(h:k<=1000):qy (fun n=>dH n (k:Int)) (fun z=>z.size<=4):=U8 3 k (by decide) (by omega) (by omega)
theorem qa6{y:Int}(a:0<=y)(b:y<=7):∃p:Nat,qF ([2,2,3,3,4,3,3,3]:List Int) y=V (p:Int)/\2<=p/\p<=4:=by
 have:y=0\/y=1\/y=2\/y=3\/y=4\/y=5\/y=6\/y=7:=by omega
 rcases this with rfl|rfl|rfl|rfl|rfl|rfl|rfl|rfl
 .exact⟨2,Z,by decide,by decide⟩
 .exact⟨2,Z,by decide,by decide⟩
 .exact⟨3,Z,by decide,by decide⟩
 .exact⟨3,Z,by decide,by decide⟩
 .exact⟨4,Z,by decide,by decide⟩
 .exact⟨3,Z,by decide,by decide⟩
 .exact⟨3,Z,by decide,by decide⟩
 .exact⟨3,Z,by decide,by decide⟩
theorem qaw{y:Int}(a:0<=y)(b:y<12):∃p:Int,qF ([0,1,2,2,3,4,5,5,5,6,7,1]:List Int) y=V p/\0<=p/\p<=7:=by
 have:y=0\/y=1\/y=2\/y=3\/y=4\/y=5\/y=6\/y=7\/y=8\/y=9\/y=10\/y=11:=by omega
 rcases this with rfl|rfl|rfl|rfl|rfl|rfl|rfl|rfl|rfl|rfl|rfl|rfl<;>exact⟨_,Z,by decide,by decide⟩
theorem CV{α:Type}{xs:List α}(h:xs.length<=1048576):dj ([]:List α) xs=V xs:=by
 have:=dU (xs:=([]:List α)) (ys:=xs) (by simp;omega);rwa [List.nil_append] at this
theorem qcz{l:List ByteArray}{m:Int}{p:Nat}(k:qF ([2,2,3,3,4,3,3,3]:List Int) m=V (p:Int))(H:2<=p)(I:p<=4)(u:l.length<=100)(i:gj code) :
  ∀(d j:Nat) (x:List Int) (f g:Int),dO code f g->j+d+1=p->x.length=j->(∀y,y∈x->mO y) ->
   qy (fun n=>kB ⟨code,a,s⟩ l m n x f g (j:Int)) (fun o=>(o.1.length+1=p/\∀y,y∈o.1->mO y)/\dO code o.2.1 o.2.2.1):=by
 have h:qj ((p:Int)-1)=((p-1:Nat):Int):=by rw[qY (by omega) (by omega)];omega
 intro d
 induction d with
 |zero=>
  intro j x f g c r t b;refine Cw ?_;simp only[kB];refine Co k ?_;rw[h];exact qy.ff (qu (by omega)) (Cn ⟨⟨by dsimp only;omega,b⟩,c⟩)
 |succ d ih=>
  intro j x f g c r t b;refine Cw ?_;simp only[kB];refine Co k ?_;rw[h];refine qy.tt (qq (by omega)) (Cl (aQ _ i c) ?_);rintro⟨v,z,A⟩ ⟨_,c⟩;refine Cl (aQ 3 i c) ?_;rintro⟨B,C,D⟩ ⟨_,c⟩;refine Cl (R:=mO) (qy.bif (fun _=>Cn (bP _)) (fun _=>Cn (bP _))) (fun F hi=>?_);refine Cl (R:=fun _=>True) (qy.bif (fun _=>Cn trivial) (fun _=>Cn trivial)) (fun b3 _=>?_);rw[wS j];refine qy.bif (fun _=>?_) (fun _=>?_)
  .exact Co (CV (by omega)) (Co (fH (by omega)) (ih (j+1) _ _ _ c (by omega) (by rw[jg,jh];omega) (dT b (bp (by decide) (by decide)))))
  .exact Co (CV (by omega)) (Co (fH (by omega)) (ih (j+1) _ _ _ c (by omega) (by rw[jg,jh];omega) (dT b hi)))
structure qai(x:qL):Prop where
 ok:KL x
 l2:2<=x.Am.length
 l5:x.Am.length<=5
theorem qaL(B:gj code):∀(r:Nat) (f:List ByteArray) (d:List qL) (i l:Int),dO code i l->d.length+r<=14->f.length=d.length+3->(∀y,y∈f->LW y)->(∀y,y∈d->qai y) ->
  qy (fun n=>mq ⟨code,a,s⟩ n f d i l (r:Int)) (fun o=>(o.1.length=o.2.1.length+3/\o.2.1.length=d.length+r/\(∀y,y∈o.1->LW y)/\∀y,y∈o.2.1->qai y)/\dO code o.2.2.1 o.2.2.2.1):=by
 intro r
 induction r with
 |zero=>
  intro f d i l b I g m t;refine Cw ?_;simp only[mq];exact qy.ff Z (Cn ⟨⟨g,Z,m,t⟩,b⟩)
 |succ r ih=>
  intro f d i l b I g m t;refine Cw ?_;simp only[mq];refine qy.tt (by simp) (Cl (aQ 12 B b) ?_);rintro⟨W,P,Q⟩ ⟨⟨⟨C,D⟩,_⟩,b⟩;dsimp only at C D b⊢;obtain⟨T,v,z,A⟩:=qaw C (D (by decide));obtain⟨p,J,R,S⟩:=qa6 z A;refine Co v (Cl (D4 (show d.length<=1000 by omega)) (fun r1 K=>?_));have F:(⟨#[117]⟩:ByteArray).size=1:=rfl;have H:(⟨#[110]⟩:ByteArray).size=1:=rfl;refine Co (RQ (by rw[F];omega)) (Cl (qcz J R S (by omega) B (p-1) 0 [] P Q b (by omega) Z (fun _ h=>by cases h)) ?_);rintro⟨Y,M,N,O⟩ ⟨⟨u,c⟩,b⟩;dsimp only at u c b⊢;refine Co (CV (by omega)) (Co (fH (by omega)) (Cl (D4 (show f.length<=1000 by omega)) (fun X L=>?_)));refine Co (RQ (by rw[H];omega)) (Co (fH (by omega)) (Co (fH (by omega)) ?_));have e:qj (((r+1:Nat):Int)-1)=(r:Int):=by rw[qY (by omega) (by omega)];omega
  rw[e];refine(ih _ _ _ _ b (by rw[jg,jh];omega) (by rw[jg,jg,jh,jh];omega) (dT m (by show(_++_:ByteArray).size<=_;rw[ByteArray.size_append,H];omega))
   (dT t ⟨⟨by show(_++_:ByteArray).size<=_;rw[ByteArray.size_append,F];omega,bp (x:=T) (by omega) (by omega),⟨by show(_++_:List Int).length<=_;rw[jg,jh];omega,dT c (bp (by omega) (by omega))⟩⟩,by show _<=(_++_:List Int).length;rw[jg,jh];omega,by show(_++_:List Int).length<=_;rw[jg,jh];omega⟩)).mono (fun o k=>⟨⟨k.1.1,by rw[k.1.2.1,jg,jh];omega,k.1.2.2⟩,k.2⟩)
theorem tp{α:Type}{ok:α->Prop}{xs:List α}{j:Int}{y:α}(h:∀x,x∈xs->ok x)(b:ok y):∀x,x∈ak xs j y->ok x:=by
 intro x a;unfold ak at a;rcases List.mem_or_eq_of_mem_set a with a|rfl
 .exact h x a
 .exact b
theorem qc9{wild:Bool}{p:List ByteArray}{h:List qL}(J:h.length<=14)(u:p.length<=100)(m:gj code):∀(d j:Nat) (x:List qL) (i l:Int),dO code i l->j+d=h.length->x.length=h.length->(∀y,y∈x->qai y) ->
  qy (fun n=>kC ⟨code,a,s⟩ wild p h n x i l (j:Int)) (fun o=>(o.1.length=h.length/\∀y,y∈o.1->qai y)/\dO code o.2.1 o.2.2.1):=by
 intro d
 induction d with
 |zero=>
  intro j x i l c t k f;refine Cw ?_;simp only[kC];exact qy.ff (qu (by omega)) (Cn ⟨⟨k,f⟩,c⟩)
 |succ d ih=>
  intro j x i l c t k f;have g:j<x.length:=by omega
  refine Cw ?_;simp only[kC,wS j];refine qy.tt (qq (by omega)) (Cl (R:=fun o:Int×Int×Bool=>dO code o.1 o.2.1) (Cl (aQ 4 m c) ?_) ?_)
  .rintro⟨D,F,H⟩ ⟨_,c⟩;refine qy.bif (fun _=>?_) (fun _=>Cn c);refine Co (cj g) (qy.bif (fun _=>Cn c) (fun _=>Co (cj g) (qy.bif (fun _=>Cn c) (fun _=>Cn c))))
  .rintro⟨v,z,I⟩ c;dsimp only at c⊢;refine qy.bif (fun _=>?_) (fun _=>ih (j+1) x _ _ c (by omega) k f);refine Co (cj g) (Cl (aQ _ m c) ?_);rintro⟨A,B,C⟩ ⟨_,c⟩;have hi:=f _ (jo g);have r:0<x[j].Am.length:=by have:=hi.l2;omega
   refine Co (b:=x[j].Am[0]) (cj (j:=0) r) ?_;refine ih (j+1) _ _ _ c (by omega) (by rw[bY];exact k) (tp f ⟨⟨hi.ok.Bh,hi.ok.Bv,⟨by show(ak _ _ _).length<=_;rw[bY];exact hi.ok.Am.1,tp hi.ok.Am.2 (bP _)⟩⟩,by show _<=(ak _ _ _).length;rw[bY];exact hi.l2,by show(ak _ _ _).length<=_;rw[bY];exact hi.l5⟩)
structure qb2(d:qk):Prop where
 ok:wn d
 sm:vC d
 n1:1<=d.Am.length
 p1:1<=d.Ai.length
theorem R2{most:Int}{wild:Bool}(K:2<=most)(J:most<=14)(g:gj code)(h:dO code a s) :
  qy (fun n=>we n ⟨code,a,s⟩ most wild) (fun o=>qb2 o.1/\dO code o.2.1 o.2.2):=by
 have z:∀x:Int,-1000<=x->x<=1000->mO x:=fun x F K=>bp (by omega) (by omega);unfold we;refine Co (CV (by simp)) (Cl (aQ _ g h) ?_);rintro⟨u,O,S⟩ ⟨⟨⟨q0,C⟩,_⟩,b⟩;have I:qj (most-1)=most-1:=qY (by omega) (by omega);rw[I] at C;dsimp only at q0 C b⊢;have q2:=C (by omega);obtain⟨m,M⟩:∃m:Nat,2+u=(m:Int):=⟨(2+u).toNat,by omega⟩;rw[wO (2+u),M];have r:∀y,y∈[(⟨#[110,99,107]⟩:ByteArray),(⟨#[110,97]⟩:ByteArray),(⟨#[110,98]⟩:ByteArray)]->LW y:=by
  intro y f;simp only[jN,jH,or_false] at f;rcases f with rfl|rfl|rfl
  .show(3:Nat)<=1048576;decide
  .show(2:Nat)<=1048576;decide
  .show(2:Nat)<=1048576;decide
 refine Cl (qaL g m _ [] O S b (by simp;omega) Z r (fun _ h=>by cases h)) ?_;rintro⟨p,D,i4,i5,i6⟩ ⟨⟨A,B,H,hi⟩,b⟩;dsimp only at A B H hi b⊢;have B:D.length=m:=by simpa using B
 refine Cl (qc9 (wild:=wild) (by omega) (by omega) g D.length 0 D i4 i5 b (by omega) Z hi) ?_;rintro⟨c,P,Q,R⟩ ⟨⟨v,d⟩,b⟩;dsimp only at v d b⊢;have N:∀y,y∈[(⟨(⟨#[99,107]⟩:ByteArray),1,0⟩:bk),(⟨(⟨#[97]⟩:ByteArray),1,1⟩:bk),(⟨(⟨#[98]⟩:ByteArray),1,2⟩:bk)]->SK y:=by
  intro y f;simp only[jN,jH,or_false] at f;rcases f with rfl|rfl|rfl
  .exact⟨by show(2:Nat)<=1048576;decide,z _ (by decide) (by decide),z _ (by decide) (by decide)⟩
  .exact⟨by show(1:Nat)<=1048576;decide,z _ (by decide) (by decide),z _ (by decide) (by decide)⟩
  .exact⟨by show(1:Nat)<=1048576;decide,z _ (by decide) (by decide),z _ (by decide) (by decide)⟩
 refine Co (CV (by simp)) (Co (fH (by simp)) (Cl (aQ 2 g b) ?_));have l:=dT (y:=(⟨(⟨#[121]⟩:ByteArray),2,qj ((p.length:Int)-1)⟩:bk)) N ⟨by show(1:Nat)<=1048576;decide,z 2 (by decide) (by decide),bP _⟩;have fin:∀{ps:List bk},1<=ps.length->ps.length<=8->(∀y,y∈ps->SK y)->qb2 ⟨c,p,ps⟩:=fun {ps} F L t=>by
  refine⟨⟨⟨by show c.length<=_;omega,fun y f=>(d y f).ok⟩,⟨by show p.length<=_;omega,H⟩,⟨by show ps.length<=_;omega,t⟩⟩,⟨by show c.length<=_;omega,by show p.length<=_;omega,L,fun i hi=>?_⟩,by show 1<=p.length;omega,F⟩;have k:i<c.length:=hi;have:=d _ (jo k);show 2<=(gt c i).Am.length/\(gt c i).Am.length<=5;rw[fh k];exact⟨this.l2,this.l5⟩
 rintro⟨T,W,X⟩ ⟨_,b⟩;refine qy.bif (fun _=>?_) (fun _=>Cn ⟨fin (by simp) (by simp) l,b⟩);refine Cl (aQ _ g b) ?_;rintro⟨Y,e,a3⟩ ⟨_,b⟩;exact Co (fH (by simp)) (Cn ⟨fin (by simp) (by simp) (dT l ⟨by show(1:Nat)<=1048576;decide,z 2 (by decide) (by decide),bP _⟩),b⟩)
end

section
variable{code:List (gW .u8)}{a s:Int}
structure qao(x:aJ):Prop where
 ok:GH x
 p1:1<=x.Ak.length/\x.Ak.length<=100
 r1:1<=x.Bw.length
 c1:1<=x.Br.length
 s1:x.Bj.length<=100
theorem LU{xs:List Int}(h:xs.length<=1048576):Ev (fun n=>kU n xs) xs:=by
 unfold kU;exact Cy (CV h) .done
theorem qbB(p:gj code):∀(r:Nat) (x1 d f:List Int) (g l:Int),dO code g l->r<=10->(1<=x1.length/\x1.length+r<=50)->(1<=d.length/\d.length+r<=50)->(1<=f.length/\f.length+r<=50) ->
  (∀y,y∈x1->mO y)->(∀y,y∈d->mO y)->(∀y,y∈f->mO y) ->
  qy (fun n=>gG ⟨code,a,s⟩ n x1 d f g l (r:Int)) (fun o=>(((1<=o.1.length/\o.1.length<=50)/\∀y,y∈o.1->mO y)/\((1<=o.2.1.length/\o.2.1.length<=50)/\∀y,y∈o.2.1->mO y)/\(1<=o.2.2.1.length/\o.2.2.1.length<=50)/\∀y,y∈o.2.2.1->mO y)/\dO code o.2.2.2.1 o.2.2.2.2.1):=by
 intro r
 induction r with
 |zero=>
  intro x1 d f g l c C l1 l2 t h i m;refine Cw ?_;simp only[gG];exact qy.ff Z (Cn ⟨⟨⟨⟨l1.1,by dsimp only;omega⟩,h⟩,⟨⟨l2.1,by dsimp only;omega⟩,i⟩,⟨t.1,by dsimp only;omega⟩,m⟩,c⟩)
 |succ r ih=>
  intro x1 d f g l c C l1 l2 t h i m;have e:qj (((r+1:Nat):Int)-1)=(r:Int):=by rw[qY (by omega) (by omega)];omega
  have b:∀{x:Int} {k:Int},0<=x->x<k->k<=1000->mO x:=fun O h i=>bp (by omega) (by omega);refine Cw ?_;simp only[gG,e];refine qy.tt (by simp) (Cz (LU (by omega)) (Cl (aQ _ p c) ?_));rintro⟨D,F,H⟩ ⟨⟨⟨u,p1⟩,_⟩,c⟩;refine Co (fH (by omega)) (Cz (LU (by omega)) (Cl (aQ _ p c) ?_));rintro⟨I,J,K⟩ ⟨⟨⟨v,z⟩,_⟩,c⟩;refine Co (fH (by omega)) (Cz (LU (by omega)) (Cl (aQ _ p c) ?_));rintro⟨L,M,N⟩ ⟨⟨⟨A,B⟩,_⟩,c⟩;dsimp only at u p1 v z A B c;refine Co (fH (by omega)) ?_;exact ih _ _ _ _ _ c (by omega) (by rw[jg,jh];omega) (by rw[jg,jh];omega) (by rw[jg,jh];omega)
   (dT h (b A (B (by decide)) (by decide))) (dT i (b v (z (by decide)) (by decide))) (dT m (b u (p1 (by omega)) (by omega)))
theorem qbC{r1:aJ}{i:List Int}(l:gj code)(z:r1.Bj.length<=100)(v:1<=i.length/\i.length<=50):∀(d j:Nat) (x:List Int) (f g:Int),dO code f g->j+d=r1.Bj.length->x.length=r1.Bj.length->(∀y,y∈x->mO y) ->
  qy (fun n=>gH ⟨code,a,s⟩ r1 i n x f g (j:Int)) (fun o=>(o.1.length=r1.Bj.length/\∀y,y∈o.1->mO y)/\dO code o.2.1 o.2.2.1):=by
 intro d
 induction d with
 |zero=>
  intro j x f g c m h b;refine Cw ?_;simp only[gH];exact qy.ff (qu (by omega)) (Cn ⟨⟨h,b⟩,c⟩)
 |succ d ih=>
  intro j x f g c m h b;refine Cw ?_;simp only[gH,wS j];refine qy.tt (qq (by omega)) (Cl (aQ _ l c) ?_);rintro⟨p,r,t⟩ ⟨⟨⟨u,k⟩,_⟩,c⟩;dsimp only at u k c⊢;have A:=k (by omega);exact Co (cj (show j<x.length by omega)) (ih (j+1) _ _ _ c (by omega) (by rw[bY];exact h) (tp b (bp (by omega) (by omega))))
theorem qcV{m:Nat}(Q:m<=100)(c:gj code)(h:dO code a s):qy (fun n=>rq n ⟨code,a,s⟩ (m:Int)) (fun o=>qao o.1/\dO code o.2.1 o.2.2):=by
 have z:∀x:Int,-1000<=x->x<=1000->mO x:=fun x f g=>bp (by omega) (by omega);unfold rq;refine Cl (aQ 6 c h) ?_;rintro⟨d,R,S⟩ ⟨⟨⟨N,p1⟩,_⟩,b⟩;dsimp only at N p1 b⊢;have W:=p1 (by decide);have C:Ev (fun n=>ua n (m:Int) d) (⟨[-1],[0],[d],List.replicate m 0⟩:aJ):=by
  unfold ua;exact Cy (xx (by omega)) .done
 refine Cz C (Cl (aQ 4 c b) ?_);rintro⟨t,J,K⟩ ⟨⟨⟨O,v⟩,_⟩,b⟩;dsimp only at O v b⊢;have X:=v (by decide);obtain⟨r,rfl⟩:∃r:Nat,t=(r:Int):=⟨t.toNat,by omega⟩;have one:∀{x:Int},mO x->∀y,y∈[x]->mO y:=fun D y i=>by obtain rfl:=List.mem_singleton.1 i;exact D
 refine Cl (qbB c r [d] [0] [-1] J K b (by omega) (by simp;omega) (by simp;omega) (by simp;omega) (one (z _ (by omega) (by omega))) (one (z _ (by decide) (by decide))) (one (z _ (by decide) (by decide)))) ?_;rintro⟨x1,P,A,L,M,T⟩ ⟨⟨⟨l1,f⟩,⟨l2,g⟩,k,p⟩,b⟩;dsimp only at l1 f l2 g k p b⊢;refine Cl (qbC (r1:=⟨[-1],[0],[d],List.replicate m 0⟩) c (by simp;omega) k m 0 (List.replicate m 0) L M b (by simp) Z (fun y i=>by obtain⟨_,rfl⟩:=List.mem_replicate.1 i;exact z _ (by decide) (by decide))) ?_;rintro⟨l,F,H,I⟩ ⟨⟨u,B⟩,b⟩;have u:l.length=m:=by simpa using u
 exact Cn ⟨⟨⟨⟨by show A.length<=_;omega,p⟩,⟨by show P.length<=_;omega,g⟩,⟨by show x1.length<=_;omega,f⟩,⟨by show l.length<=_;omega,B⟩⟩,⟨k.1,by show A.length<=_;omega⟩,l2.1,l1.1,by show l.length<=_;omega⟩,b⟩
structure qb1(b:qf):Prop where
 lib:pE b.Ar
 des:qb2 b.Aa
 wl:b.Ah.length=b.Aa.Am.length
 wi:∀y,y∈b.Ah->qao y
theorem qb1.ok{b:qf}(h:qb1 b):wL b:=⟨h.lib,h.des.ok,⟨by rw[h.wl];exact h.des.ok.Am.1,fun y a=>(h.wi y a).ok⟩⟩
theorem CW{most:Int}{wild:Bool}(u:2<=most)(m:most<=14)(p:gj code)(h:dO code a s) :
  qy (fun n=>kV n ⟨code,a,s⟩ most wild) (fun o=>qb1 o.1/\dO code o.2.1 o.2.2):=by
 unfold kV;refine Cl (qdi p h) ?_;rintro⟨r1,I,J⟩ ⟨r,b⟩;refine Cl (R2 u m p b) ?_;rintro⟨c,F,H⟩ ⟨g,b⟩;dsimp only at r g b⊢;have A:=g.sm.nn;have B:=bf g.sm;have i:∀(d j:Nat) (x:List aJ) (k l:Int),dO code k l->j+d=c.Am.length->x.length=j->(∀y,y∈x->qao y) ->
   qy (fun n=>mr ⟨code,a,s⟩ c n x k l (j:Int)) (fun o=>(o.1.length=c.Am.length/\∀y,y∈o.1->qao y)/\dO code o.2.1 o.2.2.1):=by
  intro d
  induction d with
  |zero=>
   intro j x k l b z D f;refine Cw ?_;simp only[mr];exact qy.ff (qu (by omega)) (Cn ⟨⟨by dsimp only;omega,f⟩,b⟩)
  |succ d ih=>
   intro j x k l b z D f;refine Cw ?_;simp only[mr,wS j];have C:(fd c (j:Int) (places c).length).length<=78:=by
    have:(fd c (j:Int) (places c).length).length<=(places c).length:=by
     unfold fd;rw[jq];refine jX (List.length_filter_le _ _) ?_;rw[List.length_range];exact jf _
    omega
   refine qy.tt (qq (by omega)) (Cz (xv g.sm) (Cl (qcV (by omega) p b) ?_));rintro⟨P,N,O⟩ ⟨v,b⟩;exact Co (fH (by omega)) (ih (j+1) _ _ _ b (by omega) (by rw[jg,jh];omega) (dT f v))
 refine Cl (i c.Am.length 0 [] F H b (by omega) Z (fun _ h=>by cases h)) ?_;rintro⟨x1,K,L,M⟩ ⟨⟨l1,t⟩,b⟩;exact Cn ⟨⟨r,g,l1,t⟩,b⟩
structure XI(b:qf):Prop where
 ok:wL b
 sm:vC b.Aa
theorem XT(g:gj code)(h:dO code a s):qy (fun n=>sw n ⟨code,a,s⟩) (fun o=>XI o.1/\dO code o.2.1 o.2.2):=by
 unfold sw;refine Cl (aQ 3 g h) ?_;rintro⟨X,Y,i3⟩ ⟨_,d⟩;refine Cl (CW (by decide) (by decide) g d) ?_;rintro⟨r1,i4,i5⟩ ⟨b,d⟩;dsimp only at b d⊢;have D:1<=r1.Ah.length:=by rw[b.wl];exact b.des.n1
 have F:r1.Ah.length<=30:=by rw[b.wl];exact b.des.sm.nn
 refine Cl (aQ _ g d) ?_;rintro⟨p,i7,i8⟩ ⟨⟨⟨O,r⟩,_⟩,d⟩;dsimp only at O r d⊢;have q2:=r (by omega);obtain⟨k,rfl⟩:∃k:Nat,p=(k:Int):=⟨p.toNat,by omega⟩;have i:k<r1.Ah.length:=by omega
 have c:=b.wi _ (jo i);have W:∀{y:aJ},GH y->XI ⟨r1.Ar,r1.Aa,ak r1.Ah (k:Int) y⟩:=fun {y} h=>⟨⟨b.lib,b.des.ok,⟨by show(ak _ _ _).length<=_;rw[bY];omega,tp (fun y c=>(b.wi y c).ok) h⟩⟩,b.des.sm⟩;have z:∀x:Int,-1000<=x->x<=1000->mO x:=fun x Q R=>bp (by omega) (by omega);have S:=c.p1;have T:=c.r1;have u:=c.c1;have B:=c.s1;refine Cl (aQ 20 g d) ?_;rintro⟨i9,H,I⟩ ⟨_,d⟩;dsimp only at d⊢;refine qy.bif (fun _=>?_) (fun _=>qy.bif (fun _=>?_) (fun _=>qy.bif (fun _=>?_) (fun _=>qy.bif (fun _=>?_) (fun _=>qy.bif (fun _=>?_) (fun _=>qy.bif (fun _=>?_) (fun _=>Cn ⟨⟨b.ok,b.des.sm⟩,d⟩))))))
 .have e:wT r1.Ah 1 (r1.Ah.length:Int)=V (r1.Ah.drop 1):=by
   unfold wT;rw[if_pos (by omega)];simp
  refine Co e (Cn ⟨⟨⟨b.lib,b.des.ok,⟨by show(r1.Ah.drop 1).length<=_;rw[List.length_drop];omega,fun y c=>(b.wi y (List.mem_of_mem_drop c)).ok⟩⟩,b.des.sm⟩,d⟩)
 .refine Co (cj i) (Cz (LU (by omega)) (Co (fH (by omega)) (Cn ⟨W ⟨c.ok.Ak,c.ok.Bw,c.ok.Br,⟨by show(_++_:List Int).length<=_;rw[jg,jh];omega,dT c.ok.Bj.2 (z _ (by decide) (by decide))⟩⟩,d⟩)))
 .refine Co (cj i) (Co (cj (j:=0) (show 0<r1.Ah[k].Bw.length by omega)) (Cn ⟨W ⟨c.ok.Ak,⟨by show(ak _ _ _).length<=_;rw[bY];exact c.ok.Bw.1,tp c.ok.Bw.2 (z _ (by decide) (by decide))⟩,c.ok.Br,c.ok.Bj⟩,d⟩))
 .refine Co (cj i) (Cl (aQ 3 g d) ?_);rintro⟨f,J,K⟩ ⟨⟨⟨P,t⟩,_⟩,d⟩;dsimp only at P t d⊢;have t2:=t (by decide);have:f=0\/f=1\/f=2:=by omega
  have C:∃v:Int,qF ([(-1),500,501]:List Int) f=V v/\mO v:=by
   rcases this with rfl|rfl|rfl
   .exact⟨_,Z,z _ (by decide) (by decide)⟩
   .exact⟨_,Z,z _ (by decide) (by decide)⟩
   .exact⟨_,Z,z _ (by decide) (by decide)⟩
  obtain⟨v,l,m⟩:=C;exact Co l (Co (cj (j:=0) (show 0<r1.Ah[k].Br.length by omega)) (Cn ⟨W ⟨c.ok.Ak,c.ok.Bw,⟨by show(ak _ _ _).length<=_;rw[bY];exact c.ok.Br.1,tp c.ok.Br.2 m⟩,c.ok.Bj⟩,d⟩))
 .refine Co (cj i) (Cl (aQ 5 g d) ?_);rintro⟨L,M,N⟩ ⟨_,d⟩;have e:qj ((r1.Ah[k].Ak.length:Int)-1)=((r1.Ah[k].Ak.length-1:Nat):Int):=by rw[qY (by omega) (by omega)];omega
  dsimp only;rw[e];exact Co (cj (show r1.Ah[k].Ak.length-1<r1.Ah[k].Ak.length by omega)) (Cn ⟨W ⟨⟨by show(ak _ _ _).length<=_;rw[bY];exact c.ok.Ak.1,tp c.ok.Ak.2 (bP _)⟩,c.ok.Bw,c.ok.Br,c.ok.Bj⟩,d⟩)
 .have A:=b.des.p1;refine Co (cj (j:=0) (show 0<r1.Aa.Ai.length by omega)) (Cn ⟨⟨⟨b.lib,⟨b.des.ok.Ab,b.des.ok.Am,⟨by show(ak _ _ _).length<=_;rw[bY];exact b.des.ok.Ai.1,tp b.des.ok.Ai.2 ⟨(b.des.ok.Ai.2 _ (jo _)).Bh,z 3 (by decide) (by decide),(b.des.ok.Ai.2 _ (jo _)).Cb⟩⟩⟩,b.ok.Ah⟩,⟨b.des.sm.ni,b.des.sm.nn,by show(ak _ _ _).length<=_;rw[bY];exact b.des.sm.np,b.des.sm.nx⟩⟩,d⟩)
end

def qdU(ls:List qw)(fw:Bool)(k:Nat):Int:=bif fw then AO ls k else DK ls k
def qdV(ls:List qw)(fw:Bool)(k:Nat):Int:=bif fw then DK ls k else AO ls k
structure EM(ls:List qw)(lv:List Bool)(M:Nat)(fw:Bool)(v:Nat)(x:List Bool):Prop where
 len:x.length=M
 self:gt x v=An
 wit:∀j,j<M->gt x j=An->j=v\/∃k a:Nat,k<ls.length/\gt lv k=An/\qdU ls fw k=(a:Int)/\a<M/\gt x a=An/\qdV ls fw k=(j:Int)
def PL(ls:List qw)(lv:List Bool)(fw:Bool)(x:List Bool)(k:Nat):Prop:=gt lv k=An->∀a b:Nat,qdU ls fw k=(a:Int)->qdV ls fw k=(b:Int)->gt x a=An->gt x b=An
theorem F3{x:List Bool}:x.countP id<=x.length:=List.countP_le_length
theorem F4{x:List Bool}{c:Nat}(a:c<x.length)(h:gt x c=Cd):(ak x (c:Int) An).countP id=x.countP id+1:=by
 have e:ak x (c:Int) An=x.set c An:=by unfold ak;rw[jr]
 rw[e];have:x[c]=Cd:=by rw[<-fh a];exact h
 clear e h
 induction x generalizing c with
 |nil=>cases a
 |cons y x ih=>
  cases c with
  |zero=>
   have d:y=Cd:=this;subst d;simp
  |succ c=>
   have b:c<x.length:=by simpa using a
   have:=ih b (by simpa using this);rw[List.set_cons_succ,List.countP_cons,List.countP_cons,this];omega
section
variable{ls:List qw}{lv:List Bool}{M:Nat}
theorem R4(h:yZ ls M){k:Nat}(c:k<ls.length)(fw:Bool):∃a b:Nat,qdU ls fw k=(a:Int)/\qdV ls fw k=(b:Int)/\a<M/\b<M:=by
 have d:=h.fr0 k c;have g:=h.fr1 k c;have f:=h.to0 k c;have i:=h.to1 k c;cases fw
 .exact⟨(gt ls k).To.toNat,(gt ls k).Bk.toNat,fa f,fa d,by omega,by omega⟩
 .exact⟨(gt ls k).Bk.toNat,(gt ls k).To.toNat,fa d,fa f,by omega,by omega⟩
theorem qcE(h:yZ ls M)(S:lv.length=ls.length){fw:Bool}{v:Nat}:∀(d k:Nat) (x:List Bool) (b:Bool),k+d=ls.length->EM ls lv M fw v x->(b=Cd->∀j,j<k->PL ls lv fw x j) ->
  qy (fun n=>iz ls lv fw n x b (k:Int)) (fun o=>EM ls lv M fw v o.1/\(o.2.1=Cd->∀j,j<ls.length->PL ls lv fw o.1 j)/\x.countP id<=o.1.countP id/\(o.2.1=An->b=An\/x.countP id<o.1.countP id)):=by
 have Q:=h.len;intro d
 induction d with
 |zero=>
  intro k x b P g s;refine Cw ?_;simp only[iz];refine qy.ff (qu (by omega)) (Cn ⟨g,fun e j u=>s e j (by omega),jf _,fun e=>.inl e⟩)
 |succ d ih=>
  intro k x b P g s;have f:k<ls.length:=by omega
  obtain⟨p,q,z,C,I,R⟩:=R4 h f fw;refine Cw ?_;simp only[iz,wS k];refine qy.tt (qq f) (Co (qz f) (Co (qz f) (Co (b:=((p:Int),(q:Int))) (by rw[<-z,<-C];cases fw<;>rfl) ?_)));have B:p<x.length:=by rw[g.len];exact I
  have c:q<x.length:=by rw[g.len];exact R
  refine Co (b:=gt lv k&&(gt x p&&!gt x q)) (by rw[qz (show k<lv.length by omega),qz B,qz c];simp only[jd];cases gt lv k<;>cases gt x p<;>rfl) ?_;refine qy.bif (fun i=>?_) (fun i=>?_)
  .simp only[je,jC] at i;obtain⟨c1,r,F⟩:=i;have A:p≠q:=fun e=>by rw[e,F] at r;cases r
   have H:=F4 c F;refine Co (qz c) ((ih (k+1) (ak x (q:Int) An) An (by omega) ⟨by rw[bY];exact g.len,?_,fun j u l=>?_⟩ (fun e=>by cases e)).mono fun o m=>⟨m.1,m.2.1,by have:=m.2.2.1;omega,fun _=>.inr (by have:=m.2.2.1;omega)⟩)
   .rw[lP c];split
    .rfl
    .exact g.self
   .by_cases e:j=q
    .exact .inr ⟨k,p,f,c1,z,I,by rw[lP c,if_neg A];exact r,by rw[C,e]⟩
    .rw[lP c,if_neg e] at l;rcases g.wit j u l with e2|⟨k',a,w1,w2,w3,w4,w5,w6⟩
     .exact .inl e2
     .exact .inr ⟨k',a,w1,w2,w3,w4,by rw[lP c];split;rfl;exact w5,w6⟩
  .refine ih (k+1) x b (by omega) g (fun e j u=>?_);by_cases N:j=k
   .subst N;intro y a J O t D;rw[z] at O;rw[C] at t;have K:p=a:=by omega
    have L:q=J:=by omega
    subst K;subst L;rw[y,D] at i;simpa using i
   .exact s e j (by omega)
theorem C8(h:yZ ls M)(t:lv.length=ls.length){fw:Bool}{v:Nat}(y:v<M):qy (fun n=>sa n (M:Int) ls lv (v:Int) fw) (fun x=>EM ls lv M fw v x/\∀j,j<ls.length->PL ls lv fw x j):=by
 have A:=h.nodes;have f:∀(d:Nat) (x:List Bool),M<x.countP id+d->EM ls lv M fw v x->qy (fun n=>ly ls lv fw n x An) (fun o=>EM ls lv M fw v o.1/\∀j,j<ls.length->PL ls lv fw o.1 j):=by
  intro d
  induction d with
  |zero=>
   intro x s l;have:=F3 (x:=x);rw[l.len] at this;omega
  |succ d ih=>
   intro x s l;refine Cw ?_;simp only[ly,Ci];refine Cl (qcE h t ls.length 0 x Cd (by omega) l (fun _ j k=>absurd k (Ji _))) ?_;rintro⟨z,b3,i⟩ ⟨g,m,r,p⟩;dsimp only at g m r p⊢;cases b3
   .refine Cw ?_;simp only[ly,Cj];exact Cn ⟨g,m Z⟩
   .rcases p rfl with e|e
    .cases e
    .exact ih z (by omega) g
 unfold sa;have a:v<(pre (fun _=>Cd) M).length:=by rw[vX];exact y
 refine Co (yE (by omega)) (Co (qz a) (Cl (f (M+1) _ (by omega) ⟨by rw[bY,vX],by rw[lP a,if_pos Z],fun j k c=>?_⟩) ?_))
 .refine .inl ?_;refine Classical.byContradiction fun e=>?_;rw[lP a,if_neg e,W3 k] at c;cases c
 .rintro⟨x,b⟩ u;exact Cn u
def O7(ls:List qw)(lv:List Bool)(v:Nat):Prop:=∃k,k<ls.length/\gt lv k=An/\AO ls k=(v:Int)/\DK ls k=(v:Int)
structure TV(ls:List qw)(lv:List Bool)(M:Nat)(l:List Int):Prop where
 ex:∃(v:Nat) (there back:List Bool),v<M/\(EM ls lv M An v there/\∀j,j<ls.length->PL ls lv An there j)/\(EM ls lv M Cd v back/\∀j,j<ls.length->PL ls lv Cd back j) /\
  l=dW (lg (fun w=>gt there w&&gt back w) M)/\(1<l.length\/O7 ls lv v)
theorem qcP(h:yZ ls M)(p:lv.length=ls.length){v:Nat}:qy (fun n=>wg n ls lv (v:Int)) (fun r=>r=An->O7 ls lv v):=by
 have l:=h.len;have b:∀d k,k+d=ls.length->qy (fun n=>gR ls lv (v:Int) n (k:Int)) (fun o=>∀r,o=.ret r->O7 ls lv v):=by
  intro d
  induction d with
  |zero=>
   intro k i;refine Cw ?_;simp only[gR];exact qy.ff (qu (by omega)) (Cn fun r m=>by cases m)
  |succ d ih=>
   intro k i;have a:k<ls.length:=by omega
   refine Cw ?_;simp only[gR,wS k];refine qy.tt (qq a) (Co (qz (show k<lv.length by omega)) (qy.bif (fun c=>Co (qz a) (qy.bif (fun f=>Co (qz a) (qy.bif (fun g=>Cn fun _ _=>⟨k,a,c,beq_iff_eq.1 f,beq_iff_eq.1 g⟩) (fun _=>ih (k+1) (by omega)))) (fun _=>ih (k+1) (by omega)))) (fun _=>ih (k+1) (by omega))))
 unfold wg;refine Cl (b ls.length 0 (by omega)) ?_;rintro(r|x) ho
 .exact Cn fun _=>ho r Z
 .exact Cn fun e=>by cases e
theorem qaV(h:yZ ls M)(t:lv.length=ls.length):qy (fun n=>uU n (M:Int) ls lv) (fun o=>∀l,l∈o->TV ls lv M l):=by
 have L:=h.nodes;have k:∀{a back:List Bool},a.length=M->back.length=M->∀d j p f,j+d=M->p=dW (lg (fun w=>gt a w&&gt back w) j)->f.length=M ->
   qy (fun n=>iD (M:Int) a back n p f (j:Int)) (fun o=>o.1=dW (lg (fun w=>gt a w&&gt back w) M)/\o.2.1.length=M):=by
  intro a back z y d
  induction d with
  |zero=>
   intro j p f D s x;obtain rfl:j=M:=by omega
   refine Cw ?_;simp only[iD];exact qy.ff (qu (jf _)) (Cn ⟨s,x⟩)
  |succ d ih=>
   intro j p f D s x;refine Cw ?_;simp only[iD,wS j];refine qy.tt (qq (by omega)) (Co (b:=gt a j&&gt back j) (by rw[qz (show j<a.length by omega),qz (show j<back.length by omega)];simp only[jd];cases gt a j<;>rfl) ?_);have e:=wr (q:=fun w=>gt a w&&gt back w) (j:=j);have J:(lg (fun w=>gt a w&&gt back w) j).length<=j:=vl;refine qy.bif (fun g=>?_) (fun g=>?_)
   .refine Co (fH (by rw[s,dc];omega)) (Co (qz (show j<f.length by omega)) (ih (j+1) _ _ (by omega) ?_ (by rw[bY];exact x)));rw[e,g,Ci,s];unfold dW;rw[jT];rfl
   .refine ih (j+1) _ _ (by omega) ?_ x;rw[e,g,Cj,jY,s]
 have v:∀d j m c,j+d=M->m.length=M->c.length<=j->(∀l,l∈c->TV ls lv M l) ->
   qy (fun n=>ga (M:Int) ls lv n m c (j:Int)) (fun o=>∀l,l∈o.2.1->TV ls lv M l):=by
  intro d
  induction d with
  |zero=>
   intro j m c D B F u;refine Cw ?_;simp only[ga];exact qy.ff (qu (by omega)) (Cn u)
  |succ d ih=>
   intro j m c D B F u;refine Cw ?_;simp only[ga,wS j];refine qy.tt (qq (by omega)) (Co (qz (show j<m.length by omega)) (qy.bif (fun _=>ih (j+1) m c (by omega) B (by omega) u) (fun _=>?_)));refine Cl (C8 h t (fw:=An) (show j<M by omega)) (fun a z=>?_);refine Cl (C8 h t (fw:=Cd) (show j<M by omega)) (fun back y=>?_);refine Cl (k z.1.len y.1.len M 0 [] m (by omega) Z B) ?_;rintro⟨p,f,i⟩ ⟨A,l5⟩;dsimp only at A l5⊢;refine Cl (R:=fun r=>r=An->TV ls lv M p) (qy.bif (fun g=>Cn fun _=>⟨j,a,back,by omega,z,y,A,.inl (by have:=of_decide_eq_true g;omega)⟩) (fun _=>Cl (qcP h t) (fun r I=>Cn fun e=>⟨j,a,back,by omega,z,y,A,.inr (I e)⟩))) (fun K C=>?_);refine qy.bif (fun g=>?_) (fun _=>ih (j+1) f c (by omega) l5 (by omega) u);exact Co (fH (by omega)) (ih (j+1) f _ (by omega) l5 (by rw[jg,jh];omega) (dT u (C g)))
 unfold uU;refine Co (yE (by omega)) (Cl (v M 0 (pre (fun _=>Cd) M) [] (by omega) vX (jf _) (fun _ t=>by cases t)) ?_);rintro⟨_,c,_⟩ H;exact Cn H
theorem H2(h:yZ ls M)(z:∀k k',k<ls.length->k'<ls.length->(gt ls k).Bf≠1->(gt ls k').Bf≠1->DK ls k≠AO ls k'){l:List Int}(I:TV ls lv M l) :
  ∃k,k<ls.length/\gt lv k=An/\(gt ls k).Bf=1/\AO ls k∈l/\DK ls k∈l:=by
 obtain⟨v,c,back,J,⟨y,ct⟩,⟨u,B⟩,e,i⟩:=I.ex;have mem:∀w:Nat,w<M->gt c w=An->gt back w=An->(w:Int)∈l:=fun w D F H=>by
  rw[e,pC,nG];exact⟨D,by rw[F,H];rfl⟩
 rcases i with i|⟨k,k1,k2,k3,k4⟩
 . -- another node of the loop
  obtain⟨w,f,g⟩:∃w,w∈lg (fun w=>gt c w&&gt back w) M/\w≠v:=by
   have nd:(lg (fun w=>gt c w&&gt back w) M).Nodup:=List.nodup_range.filter _;have d:1<(lg (fun w=>gt c w&&gt back w) M).length:=by rw[e,dc] at i;exact i
   generalize lg (fun w=>gt c w&&gt back w) M=S at nd d
   match S,nd,d with
   |a::b::S,nd,_=>
    by_cases s:a=v
    .refine⟨b,by simp,fun C=>?_⟩;rw[List.nodup_cons] at nd;exact nd.1 (by rw[s,<-C];simp)
    .exact⟨a,by simp,s⟩
  rw[nG,je] at f;obtain⟨m,o,n⟩:=f;rcases y.wit w m o with e1|⟨k1,a1,p1,p2,p3,p4,p5,p6⟩
  .exact absurd e1 g
  rcases u.wit w m n with e1|⟨k2,a2,q1,q2,q3,q4,q5,q6⟩
  .exact absurd e1 g
  have t:AO ls k1=(a1:Int):=p3;have r:DK ls k1=(w:Int):=p6;have p:AO ls k2=(w:Int):=q6;have A:DK ls k2=(a2:Int):=q3;by_cases K1:(gt ls k1).Bf=1
  .exact⟨k1,p1,p2,K1,by rw[t];exact mem a1 p4 p5 (B k1 p1 p2 w a1 r t n),by rw[r];exact mem w m o n⟩
  .by_cases K2:(gt ls k2).Bf=1
   .exact⟨k2,q1,q2,K2,by rw[p];exact mem w m o n,by rw[A];exact mem a2 q4 (ct k2 q1 q2 w a2 p A o) q5⟩
   .exact absurd (r.trans p.symm) (z k1 k2 p1 q1 K1 K2)
 .have x:=mem v J y.self u.self;refine⟨k,k1,k2,?_,by rw[k3];exact x,by rw[k4];exact x⟩;exact Classical.byContradiction fun K=>z k k k1 k1 K K (k4.trans k3.symm)
theorem ZY{xs:List Int}{x:Int}(h:x∈xs):(xs.any fun y=>y==x)=An:=List.any_eq_true.2 ⟨x,h,by simp⟩
theorem qat(h:yZ ls M)(P:∀k k',k<ls.length->k'<ls.length->(gt ls k).Bf≠1->(gt ls k').Bf≠1->DK ls k≠AO ls k'):∀(d:Nat) (lv:List Bool),lv.length=ls.length->lv.countP id<d ->
  qy (fun n=>nQ ls (M:Int) n lv) (fun o=>o.length=ls.length):=by
 have O:=h.len;have S:=h.nodes;intro d
 induction d with
 |zero=>intro lv _ R;omega
 |succ d ih=>
  intro lv A T;refine Cw ?_;simp only[nQ];refine Cl (qaV h A) (fun p C=>?_);refine qy.bif (fun _=>Cn A) (fun l=>?_);cases p with
  |nil=>simp at l
  |cons l0 p=>
   have D:=C l0 (by simp);have g:l0.length<=1048576:=by
    obtain⟨_,_,_,_,_,_,e,_⟩:=D.ex;rw[e,dc];exact jX vl (by omega)
   obtain⟨s,Q,F,H,I,J⟩:=H2 h P D;have i0:qF (l0::p) 0=V l0:=rfl;have m:∀d j c,j+d=ls.length->((∃k:Nat,c=(k:Int)/\k<ls.length/\gt lv k=An)\/j<=s) ->
     qy (fun n=>dh ls lv (l0::p) n c (j:Int)) (fun o=>∃k:Nat,o.1=(k:Int)/\k<ls.length/\gt lv k=An):=by
    intro d
    induction d with
    |zero=>
     intro j c N hi;refine Cw ?_;simp only[dh];refine qy.ff (qu (by omega)) (Cn ?_);rcases hi with hi|hi
     .exact hi
     .omega
    |succ d ih2=>
     intro j c N hi;have a:j<ls.length:=by omega
     have nx:∀{i},((∃k:Nat,i=(k:Int)/\k<ls.length/\gt lv k=An)\/j+1<=s)->qy (fun n=>dh ls lv (l0::p) n i ((j+1:Nat):Int)) (fun o=>∃k:Nat,o.1=(k:Int)/\k<ls.length/\gt lv k=An):=fun L=>ih2 (j+1) _ (by omega) L;have skip:j≠s->(∃k:Nat,c=(k:Int)/\k<ls.length/\gt lv k=An)\/j+1<=s:=fun l=>by
      rcases hi with hi|hi
      .exact .inl hi
      .exact .inr (by omega)
     refine Cw ?_;simp only[dh,wS j];refine qy.tt (qq a) (Co (qz (show j<lv.length by omega)) (qy.bif (fun c1=>Co (qz a) (qy.bif (fun t=>Co i0 (Co (qz a) (Cz (HV g) (qy.bif (fun u=>Co i0 (Co (qz a) (Cz (HV g) (qy.bif (fun v=>nx (.inl ⟨j,Z,a,c1⟩)) (fun v=>nx (skip fun e=>?_)))))) (fun u=>nx (skip fun e=>?_)))))) (fun t=>nx (skip fun e=>?_)))) (fun c1=>nx (skip fun e=>?_))))
     .subst e;have:=ZY J;unfold DK at this;rw[this] at v;cases v
     .subst e;have:=ZY I;unfold AO at this;rw[this] at u;cases u
     .subst e;rw[H] at t;cases t
     .subst e;rw[F] at c1;cases c1
   refine Cl (m ls.length 0 (-1) (by omega) (.inr (jR _))) ?_;rintro⟨c,W⟩ ⟨k,rfl,f,B⟩;have b:k<lv.length:=by omega
   refine Co (qz b) (ih _ (by rw[bY];exact A) ?_);have e:ak lv (k:Int) Cd=lv.set k Cd:=by unfold ak;rw[jr]
   rw[e];have z:lv[k]=An:=by rw[<-fh b];exact B
   have x:∀(xs:List Bool) (k:Nat) (f:k<xs.length),xs[k]=An->(xs.set k Cd).countP id+1=xs.countP id:=by
    intro xs
    induction xs with
    |nil=>intro k f;cases f
    |cons y xs ih3=>
     intro k f r;cases k with
     |zero=>
      have r:y=An:=r;subst r;simp
     |succ k=>
      have K:k<xs.length:=by simpa using f
      have:=ih3 k K (by simpa using r);rw[List.set_cons_succ,List.countP_cons,List.countP_cons];omega
   have:=x lv k b z;omega
end
theorem RD{b:qf}(h:aU b=An){x:qw}(c:x∈qd b)(p:x.Bf≠1) :
  ∃(m s:Nat) (t:Int),E7 t/\x.Bk=2*(m:Int)+t/\x.To=2*(s:Int)+t/\(gt (places b.Aa) m).drives=An/\(gt (places b.Aa) s).drives=Cd:=by
 have o:=aO h;have r:=wy h;unfold qd at c;rcases List.mem_append.1 c with c|c
 .obtain⟨i,hi,c⟩:=BU c;obtain⟨a,u,c⟩:=BU c;unfold vF at c;obtain⟨t,v,rfl⟩:=List.mem_map.1 c;exact absurd Z p
 .obtain⟨i,hi,c⟩:=BU c;obtain⟨k,f,c⟩:=BU c;obtain⟨y,z,n,g⟩:=FG f;have d:=(tq o (k:=i) (by omega)).2;unfold qcW at c;simp only[jN,jH,or_false] at c;have l:=(BB.1 d).2;have d2:(gt (places b.Aa) y).drives=Cd:=by
   unfold tU at g;simp only[je,jC] at g;exact g.2
  rcases c with c|c
  .exact⟨_,y,0,.inl Z,by rw[c,Jn],by rw[c,Jn,n],l,d2⟩
  .exact⟨_,y,1,.inr Z,by rw[c],by rw[c,n],l,d2⟩
theorem ZR{b:qf}(h:aU b=An):∀k a,k<(qd b).length->a<(qd b).length->(gt (qd b) k).Bf≠1->(gt (qd b) a).Bf≠1->DK (qd b) k≠AO (qd b) a:=by
 intro k a o f m n e;obtain⟨v,s,t,p,y,B,u,d2⟩:=RD h (uy o) m;obtain⟨d,z,A,g,l,r,c,i⟩:=RD h (uy f) n;have x:(gt (qd b) k).To=(gt (qd b) a).Bk:=e;have:s=d:=by rcases p with e|e<;>rcases g with e2|e2<;>omega
 rw[this,c] at d2;cases d2
theorem P8{b:qf}(h:aU b=An):qy (fun n=>uT n b) (fun o=>vz mO o):=by
 have m:=kf h;have l:=m.len;have k:=sW h;unfold uT;refine Cz (gL h) (Cz (pz l (by simp)) (Cz k (Cl (qat m (ZR h) _ _ uO (Nat.lt_succ_self _)) (fun x1 s=>?_))));have c:∀d j a,j+d=(qd b).length->a.length<=j->(∀y,y∈a->mO y)->qy (fun n=>iC (U3 [] (qd b).length) x1 n a (j:Int)) (fun o=>o.1.length<=10000/\∀y,y∈o.1->mO y):=by
  intro d
  induction d with
  |zero=>
   intro j a r g f;refine Cw ?_;simp only[iC,uO];exact qy.ff (qu (by omega)) (Cn ⟨by dsimp only;omega,f⟩)
  |succ d ih=>
   intro j a r g f;refine Cw ?_;simp only[iC,uO,wS j];refine qy.tt (qq (by omega)) (Co (qz (show j<x1.length by omega)) (qy.bif (fun _=>?_) (fun _=>ih (j+1) a (by omega) (by omega) f)));exact Co (fH (by omega)) (ih (j+1) _ (by omega) (by rw[jg,jh];omega) (dT f (bp (by omega) (by omega))))
 refine Cl (c (qd b).length 0 [] (by omega) (jf _) (fun _ t=>by cases t)) ?_;rintro⟨a,i⟩ ⟨p,g⟩;exact Cn ⟨by dsimp only at p⊢;omega,g⟩

section
variable{code:List (gW .u8)}{a s:Int}
theorem E0{α:Type}{P:α->Prop}{x y z:α}{i:Int}(d:0<=i)(f:i<3)(a:P x)(b:P y)(c:P z):∃v,qF [x,y,z] i=V v/\P v:=by
 have:i=0\/i=1\/i=2:=by omega
 rcases this with rfl|rfl|rfl
 .exact⟨x,Z,a⟩
 .exact⟨y,Z,b⟩
 .exact⟨z,Z,c⟩
theorem BY{x:Int}(a:-2000000000<=x)(b:x<=2000000000):mO x:=bp (by omega) (by omega)
theorem Q8(c:gj code)(h:dO code a s):qy (fun n=>ow n ⟨code,a,s⟩) (fun o=>ID o.1/\dO code o.2.1 o.2.2):=by
 unfold ow;refine Cl (aQ 3 c h) ?_;rintro⟨M,N,O⟩ ⟨⟨⟨k,p1⟩,_⟩,b⟩;dsimp only at k p1 b⊢;obtain⟨Y,f,d⟩:=E0 (P:=LW) (x:=(⟨#[115,108,111,119]⟩:ByteArray)) (y:=(⟨#[102,97,115,116]⟩:ByteArray)) (z:=(⟨#[116,121,112]⟩:ByteArray)) k (p1 (by decide)) (by show(4:Nat)<=1048576;decide) (by show(4:Nat)<=1048576;decide) (by show(3:Nat)<=1048576;decide);refine Co f (Cl (aQ 20 c b) ?_);rintro⟨Q,R,S⟩ ⟨_,b⟩;refine Cl (aQ 20 c b) ?_;rintro⟨T,W,X⟩ ⟨_,b⟩;refine Cl (aQ 60 c b) ?_;rintro⟨p,r,t⟩ ⟨_,b⟩;refine Cl (aQ 40 c b) ?_;rintro⟨u,v,A⟩ ⟨_,b⟩;refine Cl (aQ 30 c b) ?_;rintro⟨B,C,D⟩ ⟨_,b⟩;dsimp only at b⊢;refine qy.bif (fun _=>Cn ⟨⟨d,bP _,bP _,bP _,bP _⟩,b⟩) (fun _=>qy.bif (fun _=>Cl (aQ 3 c b) ?_) (fun _=>qy.bif (fun _=>Cl (aQ 2 c b) ?_) (fun _=>qy.bif (fun _=>Cn ⟨⟨by show(0:Nat)<=1048576;decide,bP _,bP _,bP _,bP _⟩,b⟩) (fun _=>Cn ⟨⟨d,bP _,bP _,bP _,bP _⟩,b⟩))))
 .rintro⟨F,H,I⟩ ⟨⟨⟨l,m⟩,_⟩,b⟩;dsimp only at l m b⊢;obtain⟨e,g,i⟩:=E0 (P:=mO) (x:=(99:Int)) (y:=100) (z:=-1) l (m (by decide)) (BY (by decide) (by decide)) (BY (by decide) (by decide)) (BY (by decide) (by decide));exact Co g (Cn ⟨⟨d,bP _,bP _,i,bP _⟩,b⟩)
 .rintro⟨J,K,L⟩ ⟨_,b⟩;exact Cn ⟨⟨d,bP _,bP _,bP _,bP _⟩,b⟩
theorem UQ(d:gj code)(h:dO code a s):qy (fun n=>ph n ⟨code,a,s⟩) (fun o=>XI o.1/\dO code o.2.1 o.2.2):=by
 unfold ph;refine Cl (aQ 12 d h) ?_;rintro⟨k,l,m⟩ ⟨_,b⟩;dsimp only at b⊢;refine qy.bif (fun _=>Cl (XT d b) ?_) (fun _=>qy.bif (fun _=>qy.bif (fun _=>Cl (CW (by decide) (by decide) d b) ?_) (fun _=>Cl (CW (by decide) (by decide) d b) ?_)) (fun _=>qy.bif (fun _=>Cl (CW (by decide) (by decide) d b) ?_) (fun _=>Cl (CW (by decide) (by decide) d b) ?_)))
 .rintro⟨r,f,g⟩ i;exact Cn i
 .rintro⟨r,f,g⟩ ⟨c,b⟩;exact Cn ⟨⟨c.ok,c.des.sm⟩,b⟩
 .rintro⟨r,f,g⟩ ⟨c,b⟩;exact Cn ⟨⟨c.ok,c.des.sm⟩,b⟩
 .rintro⟨r,f,g⟩ ⟨c,b⟩;exact Cn ⟨⟨c.ok,c.des.sm⟩,b⟩
 .rintro⟨r,f,g⟩ ⟨c,b⟩;exact Cn ⟨⟨c.ok,c.des.sm⟩,b⟩
theorem P9{b:qf}(D:XI b)(k:gj code)(h:dO code a s):qy (fun n=>ou n ⟨code,a,s⟩ b) (fun o=>vz mO o.1/\dO code o.2.1 o.2.2):=by
 unfold ou;refine Cl (R:=fun o:Int×Int×Bool=>dO code o.1 o.2.1/\(o.2.2=Cd->aU b=An)) (Cz (ta D.ok) (qy.bif (fun _=>Cn ⟨h,fun e=>by cases e⟩) (fun g=>Cl (aQ 3 k h) ?_))) ?_
 .rintro⟨X,Y,a3⟩ ⟨_,c⟩;exact Cn ⟨c,fun _=>by simpa using g⟩
 rintro⟨i1,i2,b1⟩ ⟨c,g⟩;dsimp only at c g⊢;refine qy.bif (fun _=>Cn ⟨⟨jR _,fun _ h=>by cases h⟩,c⟩) (fun u=>?_);have g:=g u;have I:=lG g;refine Cz (gL g) (Cl (aQ 8 k c) ?_);rintro⟨v,i4,i5⟩ ⟨⟨⟨p0,p1⟩,_⟩,c⟩;dsimp only at p0 p1 c⊢;have p2:=p1 (by decide);have z:qj (1+v)=1+v:=qY (by omega) (by omega);rw[z];refine Cl (aQ _ k c) ?_;rintro⟨A,i7,i8⟩ ⟨⟨⟨q0,B⟩,_⟩,c⟩;dsimp only at q0 B c⊢;have q2:=B (by omega);obtain⟨j,rfl⟩:∃j:Nat,A=(j:Int):=⟨A.toNat,by omega⟩;have m:∀(d j:Nat) (x:List Int) (p r:Int),dO code p r->(qd b).length<=j+d->x.length<=j->j<=(qd b).length+8->(∀y,y∈x->mO y) ->
   qy (fun n=>fu ⟨code,a,s⟩ (qd b) v n x p r (j:Int)) (fun o=>(o.1.length<=20000/\∀y,y∈o.1->mO y)/\dO code o.2.1 o.2.2.1):=by
  intro d
  induction d with
  |zero=>
   intro j x p r c F J H f;refine Cw ?_;simp only[fu];exact qy.ff (qu (by omega)) (Cn ⟨⟨by dsimp only;omega,f⟩,c⟩)
  |succ d ih=>
   intro j x p r c F J H f;refine Cw ?_;simp only[fu,z];refine qy.bif (fun l=>?_) (fun _=>Cn ⟨⟨by dsimp only;omega,f⟩,c⟩);have l:j<(qd b).length:=by have:=of_decide_eq_true l;omega
   refine Co (fH (by omega)) (Cl (aQ _ k c) ?_);rintro⟨i,M,N⟩ ⟨⟨⟨t0,C⟩,_⟩,c⟩;dsimp only at t0 C c⊢;have t2:=C (by omega);have e1:qj ((j:Int)+qj (1+i))=((j+(1+i.toNat):Nat):Int):=by rw[wO (1+i),qY (by omega) (by omega)];omega
   rw[e1];exact ih _ _ _ _ c (by omega) (by rw[jg,jh];omega) (by omega) (dT f (BY (by omega) (by omega)))
 refine Cl (m (qd b).length j [] i7 i8 c (by omega) (jR _) (by omega) (fun _ h=>by cases h)) ?_;rintro⟨x1,i9,K,L⟩ ⟨⟨l1,t⟩,c⟩;dsimp only at l1 t c⊢;refine Cl (aQ 12 k c) ?_;rintro⟨O,P,Q⟩ ⟨_,c⟩;dsimp only at c⊢;refine qy.bif (fun _=>Cl (aQ 2 k c) ?_) (fun _=>Cn ⟨⟨by dsimp only;omega,t⟩,c⟩);rintro⟨S,T,W⟩ ⟨_,c⟩;exact Co (fH (by omega)) (Cn ⟨⟨by show(_++_:List Int).length<=_;rw[jg,jh];omega,dT t (bP _)⟩,c⟩)
theorem QW{b:qf}(B:XI b)(p:gj code)(h:dO code a s):qy (fun n=>kJ n ⟨code,a,s⟩ b) (fun o=>vz re o.1/\dO code o.2.1 o.2.2):=by
 have N:=bf B.sm;have two:∀{I:Int} {b1:Bool} (d j:Nat) (x:List ql) (l m:Int),dO code l m->j+d=2->x.length+d<=1000->(∀y,y∈x->re y) ->
   qy (fun n=>dD ⟨code,a,s⟩ I b1 n x l m (j:Int)) (fun o=>(o.1.length<=x.length+d/\∀y,y∈o.1->re y)/\dO code o.2.1 o.2.2.1):=by
  intro I b1 d
  induction d with
  |zero=>
   intro j x l m c C F f;obtain rfl:j=2:=by omega
   refine Cw ?_;simp only[dD];exact qy.ff Z (Cn ⟨⟨jf _,f⟩,c⟩)
  |succ d ih=>
   intro j x l m c C F f;refine Cw ?_;simp only[dD,wS j];refine qy.tt (decide_eq_true (by omega)) (Cl (R:=fun o:Int×Int×Bool=>dO code o.1 o.2.1) (qy.bif (fun _=>Cl (aQ 8 p c) ?_) (fun _=>Cl (aQ 24 p c) ?_)) ?_)
   .rintro⟨a5,a6,a7⟩ ⟨_,c⟩;refine qy.bif (fun _=>Cn c) (fun _=>Cl (aQ 24 p c) ?_);rintro⟨a8,a9,b4⟩ ⟨_,c⟩;exact Cn c
   .rintro⟨b5,b6,b7⟩ ⟨_,c⟩;exact Cn c
   rintro⟨i7,i8,b2⟩ c;dsimp only at c⊢;refine qy.bif (fun _=>Cl (aQ 200 p c) ?_) (fun _=>(ih (j+1) x i7 i8 c (by omega) (by omega) f).mono fun o t=>⟨⟨by have:=t.1.1;omega,t.1.2⟩,t.2⟩);rintro⟨i9,O,P⟩ ⟨_,c⟩;refine Cl (aQ 30 p c) ?_;rintro⟨H,Q,S⟩ ⟨⟨⟨t0,K⟩,_⟩,c⟩;refine Cl (aQ 40 p c) ?_;rintro⟨T,X,Y⟩ ⟨_,c⟩;refine Cl (aQ 12 p c) ?_;rintro⟨e,a3,a4⟩ ⟨_,c⟩;dsimp only at t0 K c⊢;have t2:=K (by decide);refine Co (fH (by omega)) ((ih (j+1) _ _ _ c (by omega) (by rw[jg,jh];omega) (dT f ⟨bP _,⟨bP _,bP _⟩,⟨BY (x:=H) (by omega) (by omega),bP _⟩⟩)).mono fun o t=>⟨⟨by have:=t.1.1;rw[jg,jh] at this;omega,t.1.2⟩,t.2⟩)
 unfold kJ;refine Cz (ta B.ok) (qy.bif (fun _=>Cn ⟨⟨jR _,fun _ h=>by cases h⟩,h⟩) (fun _=>Cz (od B.sm) ?_));have D:((places b.Aa).map lX).length=(places b.Aa).length:=jq ..;generalize (places b.Aa).map lX=ps at D⊢;have A:∀(d j:Nat) (x:List ql) (l m:Int),dO code l m->j+d=ps.length->x.length<=2*j->(∀y,y∈x->re y) ->
   qy (fun n=>eS ⟨code,a,s⟩ ps n x l m (j:Int)) (fun o=>(o.1.length<=156/\∀y,y∈o.1->re y)/\dO code o.2.1 o.2.2.1):=by
  intro d
  induction d with
  |zero=>
   intro j x l m c C F f;refine Cw ?_;simp only[eS];exact qy.ff (qu (by omega)) (Cn ⟨⟨by dsimp only;omega,f⟩,c⟩)
  |succ d ih=>
   intro j x l m c C F f;have r:j<ps.length:=by omega
   refine Cw ?_;simp only[eS,wS j];refine qy.tt (qq r) (Cl (R:=fun _=>True) (Co (cj r) (qy.bif (fun _=>Co (cj r) (Cn trivial)) (fun _=>Cn trivial))) (fun b1 _=>?_));refine Cl (two 2 0 x l m c Z (by omega) f) ?_;rintro⟨x2,i4,i5,i6⟩ ⟨⟨l2,M⟩,c⟩;exact ih (j+1) x2 i4 i5 c (by omega) (by dsimp only at l2;omega) M
 refine Cl (A ps.length 0 [] a s h (by omega) (jf _) (fun _ h=>by cases h)) ?_;rintro⟨x1,i1,i2,I⟩ ⟨⟨l1,u⟩,c⟩;dsimp only at l1 u c⊢;refine qy.bif (fun g=>?_) (fun _=>Cn ⟨⟨by dsimp only;omega,u⟩,c⟩);have g:0<x1.length:=by have:=of_decide_eq_true g;omega
 refine Cl (aQ _ p c) ?_;rintro⟨z,b8,b9⟩ ⟨⟨⟨q0,J⟩,_⟩,c⟩;dsimp only at q0 J c⊢;have q2:=J (by omega);obtain⟨k,rfl⟩:∃k:Nat,z=(k:Int):=⟨z.toNat,by omega⟩;have v:k<x1.length:=by omega
 have i:=u _ (jo v);have L:=u _ (jo g);have W:∀{y:ql},re y->vz re (ak x1 (k:Int) y):=fun {y} h=>⟨by rw[bY];omega,tp u h⟩;refine Cl (aQ 30 p c) ?_;rintro⟨c0,c2,c3⟩ ⟨_,c⟩;dsimp only at c⊢;refine qy.bif (fun _=>Co (cj (j:=0) g) (Co (cj v) (Cn ⟨W ⟨L.Bn,i.Af,i.Bb⟩,c⟩))) (fun _=>qy.bif (fun _=>Co (cj v) (Co (cj v) (Cn ⟨W ⟨i.Bn,⟨bP _,i.Af.Be⟩,i.Bb⟩,c⟩))) (fun _=>qy.bif (fun _=>Co (cj v) (Cn ⟨W ⟨i.Bn,i.Af,⟨BY (x:=-1) (by decide) (by decide),i.Bb.Be⟩⟩,c⟩)) (fun _=>qy.bif (fun _=>Co (cj v) (Cn ⟨W ⟨i.Bn,⟨i.Af.As,BY (x:=1000000000) (by decide) (by decide)⟩,i.Bb⟩,c⟩)) (fun _=>Cn ⟨⟨by dsimp only;omega,u⟩,c⟩))))
structure qdF(b:qf)(c:qG)(br:List Int)(xs:List ql):Prop where
 bl:XI b
 co:ID c
 br_:vz mO br
 sr:vz re xs
theorem Q5(d:gj code)(h:dO code a s):qy (fun n=>rv n ⟨code,a,s⟩) (fun o=>qdF o.1 o.2.1 o.2.2.1 o.2.2.2.1/\dO code o.2.2.2.2.1 o.2.2.2.2.2):=by
 unfold rv;refine Cl (UQ d h) ?_;rintro⟨r1,J,K⟩ ⟨c,b⟩;refine Cl (Q8 d b) ?_;rintro⟨T,L,M⟩ ⟨f,b⟩;refine Cl (aQ 3 d b) ?_;rintro⟨N,O,P⟩ ⟨_,b⟩;dsimp only at c f b⊢;refine Cl (R:=fun o:qf×Int×Int=>XI o.1/\dO code o.2.1 o.2.2) (qy.bif (fun _=>Cl (CW (by decide) (by decide) d b) ?_) (fun _=>Cn ⟨c,b⟩)) ?_
 .rintro⟨r9,F,H⟩ ⟨c,b⟩;exact Cn ⟨⟨c.ok,c.des.sm⟩,b⟩
 rintro⟨I,Q,S⟩ ⟨c,b⟩;dsimp only at c b⊢;refine Cl (P9 c d b) ?_;rintro⟨W,r,t⟩ ⟨g,b⟩;dsimp only at g b⊢;refine Cl (R:=fun o:Int×Int×Bool=>dO code o.1 o.2.1/\(o.2.2=An->aU I=An)) (Cz (ta c.ok) (qy.bif (fun i=>qy.bif (fun _=>Cl (aQ 6 d b) ?_) (fun _=>Cn ⟨b,fun e=>by cases e⟩)) (fun _=>Cn ⟨b,fun e=>by cases e⟩))) ?_
 .rintro⟨B,C,D⟩ ⟨_,b⟩;exact Cn ⟨b,fun _=>i⟩
 rintro⟨u,v,b1⟩ ⟨b,i⟩;dsimp only at b i⊢;refine qy.bif (fun k=>Cl (P8 (i k)) (fun X l=>Cl (QW c d b) ?_)) (fun _=>Cl (QW c d b) ?_)
 .rintro⟨Y,x,y⟩ ⟨m,b⟩;exact Cn ⟨⟨c,f,l,m⟩,b⟩
 .rintro⟨r7,z,A⟩ ⟨p,b⟩;exact Cn ⟨⟨c,f,g,p⟩,b⟩
structure qaj(j:bg):Prop where
 ok:mQ j
 sm:vC j.Ac.Aa
theorem qdg(c:gj code)(h:dO code a s):qy (fun n=>sx n ⟨code,a,s⟩) (fun o=>qaj o.1/\dO code o.2.1 o.2.2):=by
 unfold sx;refine Cl (Q5 c h) ?_;rintro⟨r1,i,k,l,f,g⟩ ⟨b,d⟩;exact Cn ⟨⟨⟨b.bl.ok,b.co,b.br_,b.sr⟩,b.bl.sm⟩,d⟩
theorem Q9{b:qf}(h:vC b.Aa):Ev (fun n=>bT n b) ((2*(places b.Aa).length:Nat):Int):=by
 have a:=bf h;unfold bT;refine Ck (b:=(places b.Aa).map lX) (od h) (Cx ?_);rw[jq,qY (by omega) (by omega)]
 rfl
theorem qcA{j:bg}(v:qaj j)(u:gj code)(h:dO code a s):qy (fun n=>rz n ⟨code,a,s⟩ j) (fun o=>mO o.1/\dO code o.2.1 o.2.2):=by
 have i:=Q9 v.sm;have H:=bf v.sm;unfold rz;rcases LY v.ok with⟨code',hne,hs',_⟩|⟨t,R,hw,hs',_⟩
 .refine Cz hs' (Cz i (Cl (aQ _ u h) ?_));rintro⟨e,C,D⟩ ⟨_,b⟩;dsimp only at b⊢;have F:qy (fun n=>kK ⟨code,a,s⟩ code' ((2*(places j.Ac.Aa).length:Nat):Int) n C D 0) (fun o=>dO code o.1 o.2):=by
   refine Cw ?_;simp only[kK];exact Cl (R:=fun o=>o=(C,D,Cd)) (qy.tt Z (qy.ff (by simpa using hne) (Cn Z))) (fun o y=>by subst y;exact Cn b)
  refine Cl F ?_;rintro⟨i8,i9⟩ b;exact Cn ⟨bP _,b⟩
 .obtain⟨B,x4,x5⟩:=t;unfold LR at hs';have I:B.length=2*(places j.Ac.Aa).length:=hw.tm.r;refine Cz hs' (Cz i (Cl (aQ _ u h) ?_));rintro⟨J,z,A⟩ ⟨_,b⟩;dsimp only at b⊢;have p:∀(d f:Nat) (c g r:Int),f+d=12->dO code g r->mO c->qy (fun n=>dM ⟨code,a,s⟩ B ((2*(places j.Ac.Aa).length:Nat):Int) n g r c (f:Int)) (fun o=>dO code o.1 o.2.1/\mO o.2.2):=by
   intro d
   induction d with
   |zero=>
    intro f c g r x b hi;obtain rfl:f=12:=by omega
    refine Cw ?_;simp only[dM];exact Cl (R:=fun o=>o=(g,r,Cd)) (qy.ff Z (Cn Z)) (fun o y=>by subst y;exact Cn ⟨b,hi⟩)
   |succ d ih=>
    intro f c g r x b hi;refine Cw ?_;simp only[dM,wS f];refine Cl (R:=fun o:Int×Int×Bool=>dO code o.1 o.2.1) (qy.tt (decide_eq_true (by omega)) (qy.tt Z (Cl (aQ 16 u b) ?_))) ?_
    .rintro⟨S,T,W⟩ ⟨_,b⟩;exact Cn b
    rintro⟨N,O,b2⟩ b;dsimp only at b⊢;refine qy.bif (fun _=>Cl (aQ _ u b) ?_) (fun _=>Cn ⟨b,hi⟩);rintro⟨m,P,Q⟩ ⟨⟨⟨X,Y⟩,_⟩,b⟩;dsimp only at X Y b⊢;refine qy.bif (fun l=>?_) (fun _=>ih (f+1) _ _ _ (by omega) b hi);have l:=of_decide_eq_true l;obtain⟨k,rfl⟩:∃k:Nat,m=(k:Int):=⟨m.toNat,by omega⟩;exact Co (cj (show k<B.length by omega)) (qy.bif (fun _=>ih (f+1) _ _ _ (by omega) b (BY (by omega) (by omega))) (fun _=>ih (f+1) _ _ _ (by omega) b hi))
  refine Cl (p 12 0 _ z A Z b (bP _)) ?_;rintro⟨K,L,M⟩ ⟨b,hi⟩;exact Cn ⟨hi,b⟩
end

section
variable{code:List (gW .u8)}
theorem F2{x:Int}(b:0<=x)(c:x<=255)(d:gj code)(f:code.length+1<=1048576):gj ([(⟨x⟩:gW .u8)]++code):=
 ⟨by rw[jg,jh];omega,fun y a=>by
  rcases List.mem_append.1 a with a|a
  .obtain rfl:=List.mem_singleton.1 a;exact⟨b,c⟩
  .exact d.2 y a⟩
theorem R0(a:gj code):qy (fun n=>ol n code) (fun o=>qaj o.1/\mO o.2):=by
 obtain⟨s,d,b⟩:=NU a;unfold ol;refine Cz d (Cl (qdg a b) ?_);rintro⟨j,f,g⟩ ⟨c,b⟩;refine Cl (qcA c a b) ?_;rintro⟨h,i,k⟩ ⟨hi,_⟩;exact Cn ⟨c,hi⟩
end

section
variable{code:List (gW .u8)}
theorem F7(c:gj code)(g:code.length+1<=1048576):qy (fun n=>fK n code) (fun o=>qaj o.1):=by
 unfold fK;refine Cl (R0 c) ?_;rintro⟨j,t⟩ ⟨f,hi⟩;have a:=F2 (x:=6) (by decide) (by decide) c g;refine Co (dU (by rw[jh];omega)) ?_;obtain⟨s,d,b⟩:=NU a;refine Cz d (Cl (aQ 2 a b) ?_);rintro⟨u,v,t⟩ ⟨_,b⟩;refine Cl (aQ 24 a b) ?_;rintro⟨y,z,A⟩ ⟨_,b⟩;refine Cl (aQ 6 a b) ?_;rintro⟨B,C,h⟩ ⟨_,b⟩;refine Cl (aQ 12 a b) ?_;rintro⟨i,k,l⟩ ⟨_,b⟩;refine Cl (aQ 24 a b) ?_;rintro⟨m,p,r⟩ ⟨_,b⟩;exact Cn f
end
end Go.Fw
