/- By a program of mine (lawgen2.py): sizes of things. -/
import Derived.Test.YtfkmekkhnmifiaaGreatDoorA3
import Derived.Test.YtfkmekkhnmifiaaGreatDoorFw35
import Derived.Test.YtfkmekkhnmifiaaGreatDoorR3
import Derived.Test.YtfkmekkhnmifiaaGreatDoorZ3
import Derived.Test.YtfkmekkhnmifiaaGreatDoorFw38
open Option renaming bind_some->jd, some->V, none->U
open Nat renaming le_refl->je, mul_le_mul_right->js, le_trans->Jf, zero_add->Jg, zero_le->Jh
open Bool renaming and_eq_true->jf, eq_iff_iff->jj, not_eq_true'->jC, true_and->jF, not_true->jV
open List renaming length_append->jg, length_singleton->ji, getElem?_eq_getElem->jk, getElem_mem->jo, length_map->jp, append_assoc->jt, getD_eq_getElem?_getD->jy, not_mem_nil->jz, take_succ_eq_append_getElem->jD, mem_cons->jI, map_append->jJ, take_length->jK, mem_append_left->jM, length_replicate->jP, all_eq_true->jW, getElem_of_mem->jX, mem_append_right->jZ, ext_getElem->Jb, getElem?_map->Jd, length_take->Je
open Int renaming toNat_natCast->ju, tdiv_eq_ediv_of_nonneg->jB, mul_nonneg->jS, le_refl->jT, mul_le_mul->Ja, mul_assoc->Jc

namespace Go.Fw
open Go
structure qkA(x:qaz):Prop where
 Ba:okS x.Ba
 Bw:okI x.Bw
 Bp:okI x.Bp
 Bq:okT x.Bq
structure qh2(x:qN):Prop where
 Bk:(okL okI) x.Bk
 Be:(okL okI) x.Be
 Az:(okL okI) x.Az
structure qkN(x:qak):Prop where
 Ar:okI x.Ar
 Bb:okI x.Bb
 To:okI x.To
 Bm:okI x.Bm
 Bi:(okL qh2) x.Bi
 Ay:(okL qh2) x.Ay
structure qlX(x:qA):Prop where
 Ba:okS x.Ba
 Ar:okI x.Ar
 As:(okL qkA) x.As
 Ap:(okL qkN) x.Ap
 Bo:(okL okI) x.Bo
 Cc:okI x.Cc
 Bx:okI x.Bx
structure qgL(x:qr):Prop where
 Aj:(okL qlX) x.Aj
structure qlI(x:qz):Prop where
 Ba:okS x.Ba
 Bn:okI x.Bn
 Ai:(okL okI) x.Ai
structure qqn(x:qai):Prop where
 Ba:okS x.Ba
 Bw:okI x.Bw
 Bz:okI x.Bz
structure qjb(x:qh):Prop where
 Ab:(okL qlI) x.Ab
 Ai:(okL okS) x.Ai
 Af:(okL qqn) x.Af
structure qmR(x:qV):Prop where
 Ak:(okL okI) x.Ak
 Bt:(okL okI) x.Bt
 Bp:(okL okI) x.Bp
 Bc:(okL okI) x.Bc
structure qiw(x:qe):Prop where
 Ah:qgL x.Ah
 Aa:qjb x.Aa
 Ac:(okL qmR) x.Ac
structure qpE(x:qC):Prop where
 Ba:okS x.Ba
 Bf:okI x.Bf
 Bh:okI x.Bh
 Bg:okI x.Bg
 Bj:okI x.Bj
structure qob(x:qk):Prop where
 Aq:okI x.Aq
 Av:okI x.Av
structure qvN(x:qx):Prop where
 Bs:okI x.Bs
 Am:qob x.Am
 Ay:qob x.Ay
structure qvM(x:qF):Prop where
 Au:(okL okT) x.Au
 Am:(okL qob) x.Am
 Ay:(okL qob) x.Ay
structure qs5(x:qbs):Prop where
 Cb:okI x.Cb
 Ca:okI x.Ca
structure qpO(x:qB):Prop where
 Bb:okI x.Bb
 To:okI x.To
 Bi:okI x.Bi
 Bu:okI x.Bu
structure qte(x:qg):Prop where
 Bd:(okL qs5) x.Bd
 Bl:(okL qpO) x.Bl
end Go.Fw


namespace Go.Fw
open Go
set_option maxRecDepth 100000
theorem qcI{n:Nat}{x lo hi:Int}:qag n x lo hi=V (inI x lo hi):=by
 simp only[qag,qly,qmN];rfl
theorem qdP{n:Nat}{x lo hi:Int}:qaK n x lo hi=V (inI x lo hi):=by
 simp only[qaK,qly,qmN];rfl
def bt(s:ByteArray)(j:Nat):Nat:=(s.data.toList.getD j 0).toNat
theorem qtZ{s:ByteArray}{j:Nat}(h:j<s.size):atS s (j:Int)=V (bt s j:Int):=by
 have a:j<s.data.size:=h;have b:j<s.data.toList.length:=by simpa using a
 unfold atS;rw[if_pos (by omega),ju];have:s[j]?=V (s.data.toList.getD j 0):=by
  rw[getElem?_pos s j h,jy,jk b]
  rfl
 rw[this]
 rfl
def letB(b:Nat):Bool:=decide (97<=b)&&decide (b<=122)
def digB(b:Nat):Bool:=decide (48<=b)&&decide (b<=57)
def chB(s:ByteArray)(j:Nat):Bool:=letB (bt s j) || digB (bt s j)&&decide (0<j)
def nameB(s:ByteArray):Bool:=(decide (1<=s.size)&&decide (s.size<=8))&&allN (chB s) s.size
theorem qkm{s:ByteArray}(h:okS s):Ev (fun n=>qf9 n s) (nameB s):=by
 unfold okS at h;have d:Ev (fun n=>qdW s n 0) (bif allN (chB s) s.size then .nxt (s.size:Int) else .ret false):=by
  refine qfp ?_ (fun j a X f=>?_)
  ·exact Ev.succ (by simp only[qdW,qn (je _),cond_false];exact .done)
  ·refine Ev.succ ?_;simp only[qdW,ql a,cond_true,qtZ a,jd,qly,qmN,wS j];have e1:(decide ((bt s j:Int)>=97)&&decide ((bt s j:Int)<=122))=letB (bt s j):=by unfold letB;rw[jj];simp;omega
   have b:(decide ((bt s j:Int)>=48)&&decide ((bt s j:Int)<=57))=digB (bt s j):=by unfold digB;rw[jj];simp;omega
   have c:decide ((j:Int) > 0)=decide (0<j):=by rw[jj];simp
   rw[e1,b,c];unfold chB;cases letB (bt s j)<;>cases digB (bt s j)<;>cases decide (0<j)<;>first|exact f|exact .done
 unfold qf9;refine Ev.cast (r:=bif allN (chB s) s.size then(decide (1<=s.size)&&decide (s.size<=8)) else false) (Ev.bindB d (fun _=>?_) (fun _=>.done)) ?_
 ·simp only[qly,qmN];exact Ev.now (by congr 1;rw[jj];simp;omega)
 ·unfold nameB;cases allN (chB s) s.size<;>simp
def cutset:List UInt8:=[97,98,99,100,101,102,103,104,105,106,107,108,109,110,111,112,113,114,115,116,117,118,119,120,121,122,48,49,50,51,52,53,54,55,56,57]
theorem qoB(b:UInt8):cutset.contains b=(letB b.toNat || digB b.toNat):=by
 have a:(List.range 256).all (fun m=>cutset.contains (UInt8.ofNat m)==(letB (UInt8.ofNat m).toNat || digB (UInt8.ofNat m).toNat))=true:=by kernel_rfl
 have h:=List.all_eq_true.1 a b.toNat (List.mem_range.2 b.toNat_lt);rw[beq_iff_eq] at h;simpa using h
def letters:List UInt8:=[97,98,99,100,101,102,103,104,105,106,107,108,109,110,111,112,113,114,115,116,117,118,119,120,121,122]
theorem qrv(m:Nat)(b:m<256):decide ((Lib.indexByte letters m.toUInt8)>=0)=letB m:=by
 have a:(List.range 256).all (fun m=>decide ((Lib.indexByte letters m.toUInt8)>=0)==letB m)=true:=by kernel_rfl
 have h:=List.all_eq_true.1 a m (List.mem_range.2 b);rwa [beq_iff_eq] at h
theorem qpc{α:Type}{p:α->Bool}{l:List α}:l.dropWhile p=[]↔∀x,x∈l->p x=true:=by
 induction l with
 |nil=>simp
 |cons y l ih=>
  rw[List.dropWhile_cons];by_cases h:p y=true
  ·rw[if_pos h,ih];simp[h]
  ·rw[if_neg h];simp[h]
theorem qo9{α:Type}{p:α->Bool}{l:List α}(h:∀x,x∈l.dropWhile p->p x=true):∀x,x∈l->p x=true:=by
 induction l with
 |nil=>simp
 |cons y l ih=>
  rw[List.dropWhile_cons] at h;by_cases b:p y=true
  ·rw[if_pos b] at h;intro x a;rcases List.mem_cons.1 a with rfl|a
   ·exact b
   ·exact ih h x a
  ·rw[if_neg b] at h;exact h
theorem qt3{l cs:List UInt8}:Lib.trimS l cs=[]↔∀x,x∈l->cs.contains x=true:=by
 unfold Lib.trimS Lib.trimRightS Lib.trimLeftS;rw[qpc];constructor
 ·intro h x a;exact qo9 (p:=(cs.contains ·)) (l:=l.reverse) (fun y b=>h y (List.mem_reverse.2 b)) x (List.mem_reverse.2 a)
 ·intro h x a;exact h x (List.mem_reverse.1 ((List.dropWhile_suffix _).subset (List.mem_reverse.1 a)))
theorem qhe{a b:ByteArray}:(a.toList==b.toList)=decide (a=b):=by
 rw[jj,beq_iff_eq,decide_eq_true_iff];constructor
 ·intro h;exact ByteArray.ext (by have:=congrArg List.toArray h;simpa [ByteArray.toList_eq] using this)
 ·rintro rfl;rfl

theorem qu6{s:ByteArray}{j:Nat}(h:j<s.data.toList.length):bt s j=(s.data.toList[j]).toNat:=by
 unfold bt;rw[jy,jk h];rfl
theorem qvT{s:ByteArray}{j:Nat}:bt s j<256:=UInt8.toNat_lt _
theorem qnq{n:Nat}{s:ByteArray}(h:okS s):qhC n s=V (nameB s):=by
 unfold okS at h;have z:s.data.toList.length=s.size:=by simp
 simp only[qhC,qdP,jd];cases hI:inI (s.size:Int) 1 8 with
 |false=>
  have k:(decide (1<=s.size)&&decide (s.size<=8))=false:=by rw[qsA] at hI;rw[Bool.and_eq_false_iff,decide_eq_false_iff_not,decide_eq_false_iff_not];omega
  simp[nameB,k]
 |true=>
  have k:1<=s.size/\s.size<=8:=by rw[qbd] at hI;omega
  have t:qhX n s (⟨#[97,98,99,100,101,102,103,104,105,106,107,108,109,110,111,112,113,114,115,116,117,118,119,120,121,122,48,49,50,51,52,53,54,55,56,57]⟩:ByteArray)=V ⟨(Lib.trimS s.data.toList cutset).toArray⟩:=by
   unfold qhX;rw[if_pos ⟨by omega,by decide,by decide⟩]
   rfl
  rw[t];simp only[cond_true,jd];have p:(((⟨(Lib.trimS s.data.toList cutset).toArray⟩:ByteArray).toList==(⟨#[]⟩:ByteArray).toList))=allN (fun j=>letB (bt s j) || digB (bt s j)) s.size:=by
   rw[qhe,jj,decide_eq_true_iff,qaI];have:((⟨(Lib.trimS s.data.toList cutset).toArray⟩:ByteArray)=⟨#[]⟩)↔Lib.trimS s.data.toList cutset=[]:=by
    constructor
    ·intro i;have:=congrArg (fun x:ByteArray=>x.data.toList) i;simpa using this
    ·intro i;rw[i]
   rw[this,qt3];constructor
   ·intro m j a;have c:j<s.data.toList.length:=by omega
    have:=m _ (jo c);rw[qoB,<-qu6 c] at this;exact this
   ·intro m x u;obtain⟨j,a,rfl⟩:=jX u;have:=m j (by omega);rw[qoB,<-qu6 a];exact this
  rw[p];have o:atS s 0=V (bt s 0:Int):=qtZ (j:=0) (by omega);have g:decide (Lib.indexByte letters (bt s 0:Int).toNat.toUInt8>=0)=letB (bt s 0):=by
   rw[ju];exact qrv _ qvT
  have r:∀b:Bool,(bif b then(atS s 0).bind fun y=>(qgz n (⟨#[97,98,99,100,101,102,103,104,105,106,107,108,109,110,111,112,113,114,115,116,117,118,119,120,121,122]⟩:ByteArray) (⟨y⟩:IntK .u8)).bind fun v=>V (decide (v>=0)) else V false)=V (b&&letB (bt s 0)):=by
   intro b;cases b with
   |false=>rfl
   |true=>
    rw[o];simp only[cond_true,jd,qgz,jF];exact congrArg V g
  rw[r]
  congr 1
  have l:(decide (1<=s.size)&&decide (s.size<=8))=true:=by simp[k]
  unfold nameB;rw[l,jF,jj,jf,qaI,qaI];simp only[chB,Bool.or_eq_true,jf,decide_eq_true_eq];constructor
  ·rintro⟨d,f⟩ j a;rcases Nat.eq_zero_or_pos j with rfl|hp
   ·exact .inl f
   ·exact(d j a).imp id (fun h=>⟨h,hp⟩)
  ·intro d;refine⟨fun j a=>(d j a).imp id (fun h=>h.1),?_⟩;rcases d 0 (by omega) with f|f
   ·exact f
   ·omega
def strAt(xs:List ByteArray)(j:Nat):ByteArray:=xs.getD j ByteArray.empty
theorem qmx{xs:List ByteArray}{j:Nat}(h:j<xs.length):strAt xs j=xs[j]:=by simp[strAt,h]
theorem qoh{xs:List ByteArray}{j:Nat}(h:j<xs.length):idx xs (j:Int)=V (strAt xs j):=by rw[qbC h,qmx h]
def neB(xs:List ByteArray)(j i:Nat):Bool:=!decide (strAt xs i=strAt xs j)
def namesB(xs:List ByteArray):Bool:=allN (fun j=>nameB (strAt xs j)&&allN (neB xs j) j) xs.length
theorem qli{xs:List ByteArray}(h:okL okS xs):Ev (fun n=>qgl n xs) (namesB xs):=by
 have f:=h.len;have c:∀j,j<xs.length->Ev (fun n=>qes xs (j:Int) n 0) (bif allN (neB xs j) j then .nxt (j:Int) else .ret false):=by
  intro j a;refine qfp ?_ (fun i hi X d=>Ev.succ ?_)
  ·exact Ev.succ (by simp only[qes,qn (je _),cond_false];exact .done)
  ·simp only[qes,ql hi,cond_true,qoh (show i<xs.length by omega),qoh a,jd,qhe,wS i];unfold neB;cases decide (strAt xs i=strAt xs j)
   ·exact d
   ·exact .done
 have b:Ev (fun n=>qex xs n 0) (bif namesB xs then .nxt (xs.length:Int) else .ret false):=by
  refine qfp ?_ (fun j a X d=>Ev.succ ?_)
  ·exact Ev.succ (by simp only[qex,qn (je _),cond_false];exact .done)
  ·simp only[qex,ql a,cond_true,qoh a,jd,wS j];refine Ev.bind (qkm (by rw[qmx a];exact h.at a)) ?_;cases nameB (strAt xs j)
   ·exact .done
   ·refine Ev.ff Z (Ev.bind (c j a) ?_);cases allN (neB xs j) j
    ·exact .done
    ·exact d
 unfold qgl;refine Ev.bind b ?_;cases namesB xs<;>exact .done
theorem qqN{xs:List ByteArray}{v:ByteArray}(c:xs.length<=1048576):Ev (fun n=>qfw n xs v) (ixL (fun x=>decide (v=x)) xs):=
 qfK (fin:=(xs.length:Int)) (Lf:=qcf xs v) (pf:=fun _ x=>V (decide (v=x))) (fun _ _=>.done)
  (fun n=>by simp only[qcf,qn (je _),cond_false])
  (fun n j x a=>by
   have b:=(List.getElem?_eq_some_iff.1 a).1;simp only[qcf,ql b,cond_true,qfL a,jd,qhe,wS j])
  (fun n=>by unfold qfw;congr 1;funext o;cases o<;>rfl)
theorem qop{xs:List ByteArray}{v:ByteArray}(a:xs.length<=1048576):Ev (fun n=>qeg n xs v) (xs.any fun x=>decide (v=x)):=by
 unfold qeg;exact Ev.bind (qqN a) (Ev.now (by rw[qmj]))
theorem qiA{xs:List ByteArray}(h:okL okS xs):Ev (fun n=>qeq n xs) (namesB xs):=by
 have g:=h.len;have b:Ev (fun n=>qev xs n 0) (bif namesB xs then .nxt (xs.length:Int) else .ret false):=by
  refine qfp ?_ (fun j a X c=>Ev.succ ?_)
  ·exact Ev.succ (by simp only[qev,qn (je _),cond_false];exact .done)
  ·have f:subS xs 0 (j:Int)=V (xs.take j):=by
    unfold subS;rw[if_pos ⟨by omega,by omega,by omega⟩];simp
   simp only[qev,ql a,cond_true,qoh a,jd,f,qnq (show okS (strAt xs j) by rw[qmx a];exact h.at a),wS j];cases nameB (strAt xs j)
   ·exact .done
   ·refine Ev.ff Z (Ev.bind (qop (by simp;omega)) ?_);have:((xs.take j).any fun x=>decide (strAt xs j=x)) = !allN (neB xs j) j:=by
     rw[qq8 (d:=ByteArray.empty)]
     congr 1
     rw[Je,Nat.min_eq_left (by omega)];refine qhB (fun i hi=>?_);unfold neB strAt
     congr 1
     have:(xs.take j).getD i ByteArray.empty=xs.getD i ByteArray.empty:=by simp[jy,hi]
     rw[this];exact decide_eq_decide.2 eq_comm
    rw[this];cases allN (neB xs j) j
    ·exact .done
    ·exact c
 unfold qeq;refine Ev.bind b ?_;cases namesB xs<;>exact .done

theorem qpb{n:Nat}{x lo hi:Int}:qg3 n x lo hi=V (!inI x lo hi):=by simp only[qg3,qdP,jd]
theorem qga{xs:List Int}{lo hi:Int}(d:xs.length<=1048576):Ev (fun n=>qcy n xs lo hi) (xs.all fun x=>inI x lo hi):=by
 have b:Ev (fun n=>qa4 n xs lo hi) (ixL (fun x=>!inI x lo hi) xs):=
  qfK (fin:=(xs.length:Int)) (Lf:=qal xs lo hi) (pf:=fun _ x=>V (!inI x lo hi)) (fun _ _=>.done)
   (fun n=>by simp only[qal,qn (je _),cond_false])
   (fun n j x a=>by
    have c:=(List.getElem?_eq_some_iff.1 a).1;simp only[qal,ql c,cond_true,qfL a,jd,qpb,wS j])
   (fun n=>by unfold qa4;congr 1;funext o;cases o<;>rfl)
 unfold qcy qbI;refine Ev.bind (Ev.bind b (Ev.now Z)) (Ev.now ?_);rw[qmj,qoa]
def stepB(xs:List Int)(j:Nat):Bool:=decide (j=0) || decide (at0 xs (j-1)<at0 xs j)
def incB(xs:List Int):Bool:=allN (stepB xs) xs.length
theorem qkU{xs:List Int}(m:xs.length<=1048576):Ev (fun n=>qfi n xs) (incB xs):=by
 have g:Ev (fun n=>qbG xs n 1) (bif incB xs then .nxt (max 1 xs.length:Int) else .ret false):=by
  by_cases b:xs.length=0
  ·have k:incB xs=true:=by unfold incB;rw[b];rfl
   rw[k];refine Ev.succ ?_;have:decide ((1:Int)<(xs.length:Int))=false:=by rw[b];decide
   simp only[qbG,this,cond_false];exact Ev.now (by rw[b];rfl)
  ·have:=qrV (Lf:=qbG xs) (len:=xs.length) (i0:=1) (f:=stepB xs) (bad:=false) (fin:=.nxt (max 1 xs.length:Int)) (by omega)
    (Ev.succ (by
     simp only[qbG,qn (je _),cond_false];exact Ev.now (by congr 2;omega)))
    (fun j l a X i=>Ev.succ (by
     simp only[qbG,ql a,cond_true,wS j,show(j:Int)-1=((j-1:Nat):Int) by omega,qT (show -9223372036854775808<=((j-1:Nat):Int) by omega) (by omega),qaA (show j-1<xs.length by omega),qaA a,jd];unfold stepB;by_cases c:at0 xs (j-1)<at0 xs j
     ·have e1:decide (at0 xs (j-1)>=at0 xs j)=false:=by simp;omega
      rw[e1];simp only[c,decide_true,Bool.or_true,cond_true,cond_false];exact i
     ·have e1:decide (at0 xs (j-1)>=at0 xs j)=true:=by simp;omega
      have d:decide (j=0)=false:=by simp;omega
      rw[e1,d];simp only[c,decide_false,Bool.or_self,cond_true,cond_false];exact .done))
   have e:allN (fun j=>stepB xs (1+j)) (xs.length-1)=incB xs:=by
    unfold incB;rw[jj,qaI,qaI];constructor
    ·intro h j a;cases j with
     |zero=>rfl
     |succ j=>have:=h j (by omega);rwa [Nat.add_comm] at this
    ·intro h j a;exact h (1+j) (by omega)
   rw[e] at this;exact this
 unfold qfi;refine Ev.bind g ?_;cases incB xs<;>exact .done
def lenB{α:Type}(xs:List α)(lo hi:Nat):Bool:=decide (lo<=xs.length)&&decide (xs.length<=hi)
theorem qpT{α:Type}{xs:List α}{lo hi:Nat}:inI (xs.length:Int) (lo:Int) (hi:Int)=lenB xs lo hi:=by
 unfold inI lenB;rw[jj];simp
def axisB(xs:List Int):Bool:=lenB xs 1 4&&((xs.all fun x=>inI x 0 100000)&&incB xs)
theorem qpG{xs:List Int}(a:xs.length<=1048576):Ev (fun n=>qiG n xs) (axisB xs):=by
 simp only[qiG,qaO,jd,qdP,show inI (xs.length:Int) 1 4=lenB xs 1 4 from qpT (lo:=1) (hi:=4)];unfold axisB;cases lenB xs 1 4
 ·exact .done
 ·refine Ev.tt Z (Ev.bind (qga a) ?_);cases (xs.all fun x=>inI x 0 100000)
  ·exact .done
  ·exact Ev.tt Z (Ev.bind (qkU a) .done)
theorem qoT{xs:List Int}(k:xs.length<=1048576):Ev (fun n=>qhK n xs) (axisB xs):=by
 have i:Ev (fun n=>qdT xs n 0) (bif allN (fun j=>inI (at0 xs j) 0 100000&&stepB xs j) xs.length then .nxt (xs.length:Int) else .ret false):=by
  refine qfp ?_ (fun j c X a=>Ev.succ ?_)
  ·exact Ev.succ (by simp only[qdT,qn (je _),cond_false];exact .done)
  ·simp only[qdT,ql c,cond_true,qaA c,jd,qcI,wS j];cases inI (at0 xs j) 0 100000
   ·exact .done
   ·simp only[jV,cond_false,jF];unfold stepB;by_cases h:j=0
    ·subst h;exact Ev.ff (by decide) a
    ·simp only[show(j:Int)-1=((j-1:Nat):Int) by omega,qT (show -9223372036854775808<=((j-1:Nat):Int) by omega) (by omega),qaA (show j-1<xs.length by omega),jd];have f:decide (j=0)=false:=by simp;omega
     have g:decide ((j:Int) > 0)=true:=by simp;omega
     rw[f,g];simp only[cond_true,Bool.false_or];by_cases b:at0 xs (j-1)<at0 xs j
     ·have e1:decide (at0 xs (j-1)>=at0 xs j)=false:=by simp;omega
      rw[e1];simp only[b,decide_true,cond_true,cond_false];exact a
     ·have e1:decide (at0 xs (j-1)>=at0 xs j)=true:=by simp;omega
      rw[e1];simp only[b,decide_false,cond_true,cond_false];exact .done
 have e:axisB xs=(allN (fun j=>inI (at0 xs j) 0 100000&&stepB xs j) xs.length&&lenB xs 1 4):=by
  unfold axisB incB;rw[qkb,qgN (d:=0),Bool.and_comm]
  rfl
 rw[e];unfold qhK;refine Ev.bind i ?_;cases allN (fun j=>inI (at0 xs j) 0 100000&&stepB xs j) xs.length
 ·exact .done
 ·simp only[cond_true,qly,qmN,jF];exact Ev.now (by congr 1;unfold lenB;rw[jj];simp;omega)
def tableB(t:qN):Bool:=axisB t.Bk&&(axisB t.Be&&(decide (t.Az.length=t.Bk.length*t.Be.length)&&(t.Az.all fun x=>inI x (-1000000) 1000000)))
theorem qof{a b:Nat}(c:a<=1048576)(d:b<=1048576):W64 ((a:Int)*(b:Int))=((a*b:Nat):Int):=by
 have h:a*b<=1048576*1048576:=Nat.mul_le_mul c d;have e:(a:Int)*(b:Int)=((a*b:Nat):Int):=by simp
 rw[e];exact qT (by omega) (by omega)
theorem qro{t:qN}(h:qh2 t):Ev (fun n=>qi0 n t) (tableB t):=by
 unfold qi0 tableB;refine Ev.bind (qpG h.Bk.len) ?_;cases axisB t.Bk
 ·exact .done
 ·refine Ev.tt Z (Ev.bind (qpG h.Be.len) ?_);cases axisB t.Be
  ·exact .done
  ·rw[qof h.Bk.len h.Be.len];have e:(((t.Az.length:Nat):Int)==((t.Bk.length*t.Be.length:Nat):Int))=decide (t.Az.length=t.Bk.length*t.Be.length):=by rw[jj];simp;omega
   rw[e];cases decide (t.Az.length=t.Bk.length*t.Be.length)
   ·exact .done
   ·exact Ev.tt Z (Ev.tt Z (Ev.bind (qga h.Az.len) .done))
theorem qqW{t:qN}(h:qh2 t):Ev (fun n=>qiT n t) (tableB t):=by
 have f:=h.Az.len;have c:Ev (fun n=>qeY t n 0) (bif (t.Az.all fun x=>inI x (-1000000) 1000000) then .nxt (t.Az.length:Int) else .ret false):=
  qmA (fun n=>by simp only[qeY,qn (je _),cond_false]) (fun j a X d=>by
   simp only[qeY,ql a,cond_true,qbC a,jd,qcI,wS j];cases inI t.Az[j] (-1000000) 1000000
   ·exact .done
   ·exact d)
 unfold qiT tableB;refine Ev.bind (b:=!(axisB t.Bk&&(axisB t.Be&&decide (t.Az.length=t.Bk.length*t.Be.length)))) ?_ ?_
 ·refine Ev.bind (qoT h.Bk.len) ?_;cases axisB t.Bk
  ·exact .done
  ·refine Ev.ff Z (Ev.bind (qoT h.Be.len) ?_);cases axisB t.Be
   ·exact .done
   ·refine Ev.ff Z (Ev.now ?_);rw[qof h.Bk.len h.Be.len]
    congr 1
    rw[jj];simp;omega
 ·cases axisB t.Bk
  ·exact .done
  ·cases axisB t.Be
   ·exact .done
   ·cases decide (t.Az.length=t.Bk.length*t.Be.length)
    ·exact .done
    ·refine Ev.ff Z (Ev.bind c ?_);cases (t.Az.all fun x=>inI x (-1000000) 1000000)<;>exact .done

instance:Inhabited qaz:=⟨⟨ByteArray.empty,0,0,false⟩⟩
instance:Inhabited qN:=⟨⟨[],[],[]⟩⟩
instance:Inhabited qak:=⟨⟨0,0,0,0,[],[]⟩⟩
instance:Inhabited qA:=⟨⟨ByteArray.empty,0,[],[],[],0,0⟩⟩
instance:Inhabited qz:=⟨⟨ByteArray.empty,0,[]⟩⟩
instance:Inhabited qai:=⟨⟨ByteArray.empty,0,0⟩⟩
instance:Inhabited qV:=⟨⟨[],[],[],[]⟩⟩
theorem lastE{j m:Nat}(h:j<m)(a:m<=1048576):((j:Int)==W64 ((m:Int)-1))=decide (j+1=m):=by
 rcases qub h with h|h
 ·exact h
 ·omega
theorem qi9{α:Type}[Inhabited α]{xs:List α}{g:α->ByteArray}{j:Nat}(h:j<xs.length):strAt (xs.map g) j=g (gt xs j):=by
 rw[qmx (by simpa using h),qdA h];simp
theorem qlR{α:Type}{xs:List α}{g:α->ByteArray}{ok:α->Prop}(h:okL ok xs)(a:∀x,ok x->okS (g x)):okL okS (xs.map g):=
 ⟨by rw[jp];exact h.1,fun y c=>by
  obtain⟨x,b,rfl⟩:=List.mem_map.1 c;exact a x (h.2 x b)⟩
theorem qj8{α β:Type}{xs:List α}{g:α->β}{j:Nat}(h:j<xs.length)(a:xs.length<=1048576){y:β}:appS ((xs.take j).map g) [y]=V ((xs.take j).map g++[y]):=
 qbP (by simp;omega)
def pinB(ps:List qaz)(j:Nat):Bool:=
 bif decide (j+1=ps.length) then((gt ps j).Bw==2)&&(((gt ps j).Bp==0)&&!(gt ps j).Bq) else((gt ps j).Bw==1)&&inI (gt ps j).Bp 0 500
def pinsB(ps:List qaz):Bool:=allN (pinB ps) ps.length&&(lenB ps 2 5&&namesB (ps.map qaz.Ba))
def clkN(ps:List qaz)(j:Nat):Nat:=cntP (fun i=>(gt ps i).Bq) j
theorem qrh{ps:List qaz}(h:okL qkA ps):Ev (fun n=>qi6 n ps) (pinsB ps):=by
 have i:=h.len;have l:Ev (fun n=>qdc ps n ([]:List ByteArray) 0) (bif allN (pinB ps) ps.length then .nxt (ps.map qaz.Ba,(ps.length:Int)) else .ret false):=by
  refine loopN (Lf:=qdc ps) (S:=fun j=>(ps.take j).map qaz.Ba) (pinB ps) (fun n=>?_) (fun j a o X f=>?_)
  ·simp only[qdc,qn (je _),cond_false,jK]
  ·simp only[qdc,ql a,cond_true,qD a,jd,qj8 a i,qgd (g:=qaz.Ba) a,lastE a i,bne,qdn,qdP,wS j];generalize hc:pinB ps j=c at f⊢;unfold pinB at hc;cases hd:decide (j+1=ps.length)
   ·rw[hd] at hc;simp only[cond_false] at hc⊢;subst hc;exact Ev.okP (fun b=>Ev.okP1 (fun d=>f (by rw[b,d];rfl)))
   ·rw[hd] at hc;simp only[cond_true] at hc⊢;subst hc;refine Ev.okP (fun b=>Ev.okP (fun d=>Ev.chkP1 (fun k=>f (by rw[b,d,k];rfl))))
 unfold qi6 pinsB;refine Ev.bind l ?_;cases allN (pinB ps) ps.length
 ·exact .done
 ·simp only[cond_true,qb8,qdP,jd,show inI (ps.length:Int) 2 5=lenB ps 2 5 from qpT (lo:=2) (hi:=5),jF];exact Ev.andP (fun _=>Ev.last (qiA (qlR h (fun x m=>m.Ba))))
def pinS(ps:List qaz)(j:Nat):Bool:=allN (neB (ps.map qaz.Ba) j) j&&((nameB (gt ps j).Ba&&inI (gt ps j).Bp 0 500)&&(bif decide (j+1=ps.length) then((gt ps j).Bw==2)&&(((gt ps j).Bp==0)&&!(gt ps j).Bq) else((gt ps j).Bw==1)))
theorem quc{ps:List qaz}:(lenB ps 2 5&&allN (pinS ps) ps.length)=pinsB ps:=by
 have e:namesB (ps.map qaz.Ba)=allN (fun j=>nameB (gt ps j).Ba&&allN (neB (ps.map qaz.Ba) j) j) ps.length:=by
  unfold namesB;rw[jp];exact qhB (fun j a=>by rw[qi9 a])
 unfold pinsB;rw[e,<-Bool.and_assoc,Bool.and_comm (allN (pinB ps) ps.length),Bool.and_assoc,<-qkb]
 congr 1
 refine qhB (fun j a=>?_);unfold pinS pinB;cases hd:decide (j+1=ps.length)
 ·simp only[cond_false];cases allN (neB (ps.map qaz.Ba) j) j<;>cases nameB (gt ps j).Ba<;>cases inI (gt ps j).Bp 0 500<;>cases ((gt ps j).Bw==1)<;>rfl
 ·simp only[cond_true];cases hcap:((gt ps j).Bp==0)
  ·simp
  ·have:inI (gt ps j).Bp 0 500=true:=by rw[beq_iff_eq] at hcap;rw[hcap];rfl
   rw[this];cases allN (neB (ps.map qaz.Ba) j) j<;>cases nameB (gt ps j).Ba<;>cases ((gt ps j).Bw==2)<;>cases (gt ps j).Bq<;>rfl
theorem qrm{c:qA}(h:okL qkA c.As):Ev (fun n=>qiU n c) (bif pinsB c.As then(((clkN c.As c.As.length:Nat):Int),true) else(0,false)):=by
 have s:=h.len;have l:∀j,j<c.As.length->Ev (fun n=>qe3 c (j:Int) (gt c.As j) n 0) (bif allN (neB (c.As.map qaz.Ba) j) j then .nxt (j:Int) else .ret (0,false)):=by
  intro j b;refine qfp ?_ (fun i hi X a=>Ev.succ ?_)
  ·exact Ev.succ (by simp only[qe3,qn (je _),cond_false];exact .done)
  ·simp only[qe3,ql hi,cond_true,qD (show i<c.As.length by omega),jd,qhe,wS i];unfold neB;rw[qi9 (g:=qaz.Ba) (show i<c.As.length by omega),qi9 (g:=qaz.Ba) b];exact Ev.chkP1 (fun _=>a)
 have k:Ev (fun n=>qda c n 0 0) (bif allN (pinS c.As) c.As.length then .nxt (((clkN c.As c.As.length:Nat):Int),(c.As.length:Int)) else .ret (0,false)):=by
  refine loopN (Lf:=qda c) (S:=fun j=>((clkN c.As j:Nat):Int)) (pinS c.As) (fun n=>?_) (fun j b u X a=>?_)
  ·simp only[qda,qn (je _),cond_false]
  ·have t:clkN c.As j<=j:=qf0;have d:((j:Int)==W64 ((c.As.length:Int)-1))=decide (j+1=c.As.length):=lastE b s;have f:decide ((j:Int)<W64 ((c.As.length:Int)-1)) = !decide (j+1=c.As.length):=by
    rw[qT (by omega) (by omega),jj];simp;omega
   simp only[qda,ql b,cond_true,qD b,jd,wS j,qha (show clkN c.As j<9223372036854775807 by omega),d,f,qcI];unfold pinS;refine Ev.bind (l j b) ?_;cases ha:allN (neB (c.As.map qaz.Ba) j) j
   ·exact .done
   ·simp only[cond_true,jF];refine Ev.chkT ?_ (fun o=>?_)
    ·exact Ev.or (qkm (qlr h b).Ba) (fun _=>.done)
    ·refine Ev.chkT1 ?_ (fun r=>?_)
     ·cases decide (j+1=c.As.length)
      ·exact .done
      ·simp only[cond_true,jV,cond_false,bne,qdn];cases ((gt c.As j).Bw==2)<;>cases ((gt c.As j).Bp==0)<;>cases (gt c.As j).Bq<;>exact .done
     ·have a:=a (by unfold pinS;rw[ha,o,r];rfl);have m:clkN c.As (j+1)=clkN c.As j+(bif (gt c.As j).Bq then 1 else 0):=rfl;rw[m] at a;cases hc:(gt c.As j).Bq
      ·rw[hc] at a;exact Ev.ff Z a
      ·rw[hc] at a;exact Ev.tt Z a
 rw[<-quc];unfold qiU;refine Ev.guard ?_ (fun o=>?_)
 ·unfold lenB;have e1:decide ((c.As.length:Int)<2) = !decide (2<=c.As.length):=by rw[jj];simp;omega
  have p:decide ((c.As.length:Int) > 5) = !decide (c.As.length<=5):=by rw[jj];simp;omega
  rw[e1,p];cases decide (2<=c.As.length)<;>cases decide (c.As.length<=5)<;>exact .done
 ·refine Ev.bind k ?_;cases allN (pinS c.As) c.As.length<;>exact .done
def mnL(xs:List Int):Int:=(xs.drop 1).foldl (fun m y=>if y<m then y else m) (at0 xs 0)
def mxL(xs:List Int):Int:=(xs.drop 1).foldl (fun m y=>if y > m then y else m) (at0 xs 0)
theorem qoo{t:qN}(h:tableB t=true):1<=t.Az.length:=by
 unfold tableB axisB lenB at h;simp only[jf,decide_eq_true_eq] at h;obtain⟨⟨⟨a,_⟩,_⟩,⟨⟨b,_⟩,_⟩,c,_⟩:=h;rw[c];exact Nat.mul_pos a b
theorem quW{xs:List Int}(b:1<=xs.length)(f:xs.length<=1048576):Ev (fun n=>qgX n xs) (mnL xs):=by
 have c:=(qnB (Lf:=fun n t j=>qc4 xs n t j) (xs:=xs) (step:=fun(m y:Int)=>if y<m then y else m) (fin:=fun t=>(t,(xs.length:Int))) 1 (at0 xs 0) (fun _ _=>True) b trivial (fun _ _ _ _=>trivial)
  (fun n t=>by simp only[qc4,qn (je _),cond_false])
  (fun j t a _ X d=>by simpa only[qc4,ql a,cond_true,qbC a,jd,wS j] using d)).1
 unfold qgX;rw[show decide ((xs.length:Int)<1)=false by simp;omega,show idx xs (0:Int)=V (at0 xs 0) from qaA (j:=0) (by omega)];simp only[cond_false,jd];exact Ev.bind c .done
theorem qrz{t:qN}(h:qh2 t):Ev (fun n=>qg5 n t) (bif tableB t then(⟨mnL t.Az,mxL t.Az⟩,0) else(⟨0,0⟩,1)):=by
 unfold qg5;refine Ev.chk1 (qqW h) (fun k=>?_);have g:=qoo k;have o:=h.Az.len;have d:=(qnB (Lf:=fun n (c:Int×Int) j=>qc6 t n c.1 c.2 j) (xs:=t.Az) (step:=fun(m:Int×Int) y=>(if y<m.1 then y else m.1,if y > m.2 then y else m.2)) (fin:=fun c=>(c.1,c.2,(t.Az.length:Int))) 1 (at0 t.Az 0,at0 t.Az 0) (fun _ _=>True) g trivial (fun _ _ _ _=>trivial)
  (fun n t=>by simp only[qc6,qn (je _),cond_false])
  (fun j t f _ X i=>by simpa only[qc6,ql f,cond_true,qbC f,jd,wS j] using i)).1
 have l:∀(ys:List Int) (a b:Int),ys.foldl (fun(m:Int×Int) y=>(if y<m.1 then y else m.1,if y > m.2 then y else m.2)) (a,b)=(ys.foldl (fun m y=>if y<m then y else m) a,ys.foldl (fun m y=>if y > m then y else m) b):=by
  intro ys
  induction ys with
  |nil=>intro a b;rfl
  |cons y ys ih=>intro a b;simp only[List.foldl_cons,ih]
 rw[l] at d;rw[show idx t.Az (0:Int)=V (at0 t.Az 0) from qaA (j:=0) (by omega)];simp only[jd];exact Ev.bind d .done
def tabB(pos:Bool)(t:qN):Bool:=tableB t&&(!pos || decide (0<=mnL t.Az))
def tablesB(a:List qN)(pos:Bool):Bool:=decide (a.length=2)&&a.all (tabB pos)
theorem qky{a:List qN}{pos:Bool}(h:okL qh2 a):Ev (fun n=>qfE n a pos) (tablesB a pos):=by
 have g:=h.len;have c:Ev (fun n=>qaQ n a pos) (ixL (fun x=>!tabB pos x) a):=
  qfK (fin:=(a.length:Int)) (Lf:=qaf a pos) (pf:=fun n x=>qgZ n x pos) (fun x b=>by
    unfold qgZ tabB;refine Ev.or (qro (h.2 x b)) (fun d=>?_);cases pos
    ·exact .done
    ·refine Ev.tt Z (Ev.bind (quW (qoo d) (h.2 x b).Az.len) (Ev.now ?_))
     congr 1
     rw[jj];simp)
   (fun n=>by simp only[qaf,qn (je _),cond_false])
   (fun n j x b=>by
    have f:=(List.getElem?_eq_some_iff.1 b).1;simp only[qaf,ql f,cond_true,qfL b,jd,wS j])
   (fun n=>by unfold qaQ;congr 1;funext o;cases o<;>rfl)
 unfold qfE qbc tablesB;rw[show((a.length:Int)==2)=decide (a.length=2) by rw[jj];simp;omega];refine Ev.andP (fun _=>Ev.bind (Ev.bind c (Ev.now Z)) (Ev.now ?_));rw[qmj,qoa]
theorem qhV{a:List qN}{pos:Bool}(h:okL qh2 a):Ev (fun n=>qdH n a pos) (tablesB a pos):=by
 unfold qdH tablesB;rw[show((a.length:Int) != 2) = !decide (a.length=2) by rw[jj];simp;omega];simp only[qdn];refine Ev.andP (fun b=>?_);have b:a.length=2:=by simpa using b
 have f:Ev (fun n=>qcW a pos n 0) (bif allN (fun j=>tabB pos (gt a j)) a.length then .nxt (2:Int) else .ret false):=by
  refine qfp (len:=a.length) ?_ (fun j d X c=>Ev.succ ?_)
  ·rw[b];exact Ev.succ (by simp only[qcW];exact .done)
  ·simp only[qcW,show decide ((j:Int)<2)=true by simp;omega,cond_true,qD d,jd,wS j];refine Ev.bind (qrz (qlr h d)) ?_;unfold tabB;cases tableB (gt a j)
   ·exact .done
   ·simp only[cond_true,jF];refine Ev.ff Z ?_;cases pos
    ·exact c
    ·refine Ev.tt Z ?_;rw[show decide (mnL (gt a j).Az<0) = !decide (0<=mnL (gt a j).Az) by rw[jj];simp];simp only[qdn];exact Ev.okP1 (fun _=>c)
 rw[qhM];refine Ev.bind f ?_;cases allN (fun j=>tabB pos (gt a j)) a.length<;>exact .done

theorem qdV{α:Type}[Inhabited α]{xs:List α}{x:Int}(a:0<=x)(b:x<xs.length):idx xs x=V (gt xs x.toNat):=by
  have:=qD (xs:=xs) (j:=x.toNat) (by omega);rwa [<-qgT a] at this
theorem qph{q:Nat->Bool}{m n:Nat}(h:m<=n):cntP q m<=cntP q n:=by
  induction n with
  |zero=>
    obtain rfl:m=0:=by omega
    exact je _
  |succ n ih=>
    rcases Nat.lt_or_eq_of_le h with h|rfl
    · exact Jf (ih (by omega)) (Nat.le_add_right _ _)
    · exact je _
theorem qlY{m k:Nat}:decide ((m:Int)<=(k:Int))=decide (m<=k):=by rw[jj];simp
theorem qqr{q:Nat->Bool}{n i j:Nat}(hi:i<j)(d:j<n)(a:q i=true)(b:q j=true):2<=cntP q n:=by
  have e1:cntP q (i+1)=cntP q i+1:=by rw[cntP,a];rfl
  have c:cntP q (j+1)=cntP q j+1:=by rw[cntP,b];rfl
  have f:=qph (q:=q) (show i+1<=j by omega);have g:=qph (q:=q) (show j+1<=n by omega);omega
theorem qqQ{q:Nat->Bool}{n i j:Nat}(d:cntP q n<=1)(hi:i<n)(c:j<n)(a:q i=true)(b:q j=true):i=j:=by
  rcases Nat.lt_trichotomy i j with h|h|h
  · have:=qqr h c a b;omega
  · exact h
  · have:=qqr h hi b a;omega
def clkIx(ps:List qaz):Int:=ixL (fun p=>p.Bq) ps
def clkAt(ps:List qaz)(x:Int):Bool:=(gt ps x.toNat).Bq
theorem qs0{c:qA}(f:c.As.length<=1048576):Ev (fun n=>qhr n c) (clkIx c.As):=by
  unfold qhr;refine Ev.bind (b:=clkIx c.As) ?_ .done;exact qfK (fin:=(c.As.length:Int)) (Lf:=qah c.As) (pf:=fun n x=>qhY n x) (fun _ _=>.done)
    (fun n=>by simp only[qah,qn (je _),cond_false])
    (fun n j x a=>by
      have d:=(List.getElem?_eq_some_iff.1 a).1;simp only[qah,ql d,cond_true,qfL a,jd,wS j])
    (fun n=>by unfold qbD;congr 1;funext o;cases o<;>rfl)
def arcI(ps:List qaz)(a:qak):Bool:=
  bif (a.Ar==4) || (a.Ar==5) then
    (a.Bm==0)&&(((a.Ay.length:Int)==0)&&(tablesB a.Bi false&&((a.Bb==clkIx ps)&&(decide (a.Bb>=0)&&(inI a.To 0 (ps.length-2)&&!(a.To==a.Bb))))))
  else
    (tablesB a.Bi true&&(tablesB a.Ay true&&((a.To==(ps.length:Int)-1)&&inI a.Bb 0 (ps.length-2)))) &&
      (bif a.Ar==1 then !clkAt ps a.Bb&&inI a.Bm 1 3 else(bif (a.Ar==2) || (a.Ar==3) then clkAt ps a.Bb&&(a.Bm==0) else false))
def arcS(ps:List qaz)(a:qak):Bool:=
  (inI a.Bb 0 (ps.length-2)&&inI a.To 0 (ps.length-1)) &&
    (bif a.Ar==1 then !clkAt ps a.Bb&&((a.To==(ps.length:Int)-1)&&(inI a.Bm 1 3&&(tablesB a.Bi true&&tablesB a.Ay true)))
     else(bif (a.Ar==2) || (a.Ar==3) then clkAt ps a.Bb&&((a.To==(ps.length:Int)-1)&&((a.Bm==0)&&(tablesB a.Bi true&&tablesB a.Ay true)))
     else(bif (a.Ar==4) || (a.Ar==5) then clkAt ps a.Bb&&(decide (a.To<(ps.length:Int)-1)&&(!clkAt ps a.To&&((a.Bm==0)&&(tablesB a.Bi false&&((a.Ay.length:Int)==0))))) else false)))
theorem qnI{c d:Bool}:(bif c then V c else V d)=V (c || d):=by cases c<;>rfl
theorem qqx{c d:Bool}:(bif c then V true else V d)=V (c || d):=by cases c<;>rfl
theorem qrC{n:Nat}{k:Int}:qiR n k=V ((k==4) || (k==5)):=by simp only[qiR,qqx]
theorem qtx{c:qA}{a:qak}(h:okL qkA c.As)(b:qkN a)(k:2<=c.As.length):Ev (fun n=>qhk n c a) (arcI c.As a):=by
  have i:=h.len;have e1:W64 ((c.As.length:Int)-1)=(c.As.length:Int)-1:=qe9 (by omega);have f:W64 ((c.As.length:Int)-1-1)=(c.As.length:Int)-2:=by rw[qT (by omega) (by omega)];omega
  simp only[qhk,qrC,jd,qgu,qce,qb8,e1,f,qdP,qnI,bne];unfold arcI;refine Ev.iff (fun _=>Ev.last ?_) (fun _=>Ev.guardB ?_ (fun d=>?_))
  · exact Ev.andP fun _=>Ev.andP fun _=>Ev.and (qky b.Bi) fun _=>Ev.bind (qs0 i) (Ev.andP fun _=>Ev.andP fun _=>Ev.andP fun _=>.done)
  · refine Ev.or (qky b.Bi) fun _=>Ev.or (qky b.Ay) fun _=>?_
    simp only[qdn];exact Ev.orBP fun _=>.done
  · have g:0<=a.Bb/\a.Bb<=(c.As.length:Int)-2:=by
      simp only[jf,qbd] at d;exact d.2.2.2
    simp only[qdV g.1 (show a.Bb<(c.As.length:Int) by omega),jd];exact Ev.iff (fun _=>Ev.andP fun _=>.done) (fun _=>Ev.iff (fun _=>Ev.andP fun _=>.done) (fun _=>.done))
theorem qsw{c:qA}{a:qak}(h:okL qkA c.As)(b:qkN a)(k:2<=c.As.length):Ev (fun n=>qjS n c a) (arcS c.As a):=by
  have i:=h.len;have e1:W64 ((c.As.length:Int)-1)=(c.As.length:Int)-1:=qe9 (by omega);have g:W64 ((c.As.length:Int)-1-1)=(c.As.length:Int)-2:=by rw[qT (by omega) (by omega)];omega
  simp only[qjS,jd,e1,g,qcI,qnI];unfold arcS;refine Ev.guardB ?_ (fun d=>?_)
  · simp only[qdn]
    exact Ev.orBP fun _=>.done
  · have f:(0<=a.Bb/\a.Bb<=(c.As.length:Int)-2)/\(0<=a.To/\a.To<=(c.As.length:Int)-1):=by
      simp only[jf,qbd] at d;exact d
    simp only[qdV f.1.1 (show a.Bb<(c.As.length:Int) by omega),qdV f.2.1 (show a.To<(c.As.length:Int) by omega),jd];refine Ev.iff (fun _=>?_) (fun _=>Ev.iff (fun _=>?_) (fun _=>Ev.iff (fun _=>?_) (fun _=>.done)))
    · exact Ev.andP fun _=>Ev.andP fun _=>Ev.andP fun _=>Ev.and (qhV b.Bi) fun _=>Ev.last (qhV b.Ay)
    · exact Ev.andP fun _=>Ev.andP fun _=>Ev.andP fun _=>Ev.and (qhV b.Bi) fun _=>Ev.last (qhV b.Ay)
    · exact Ev.andP fun _=>Ev.andP fun _=>Ev.andP fun _=>Ev.andP fun _=>Ev.and (qhV b.Bi) fun _=>.done
theorem qnb{ps:List qaz}(f:clkN ps ps.length<=1){x:Int}(k:0<=x):clkIx ps=x↔x<ps.length/\clkAt ps x=true:=by
  unfold clkIx ixL;cases hf:ps.findIdx? (fun p=>p.Bq) with
  |some j=>
    obtain⟨d,i,_⟩:=List.findIdx?_eq_some_iff_getElem.1 hf;have b:(gt ps j).Bq=true:=by rw[qdA d];exact i
    constructor
    · intro e
      have e:(j:Int)=x:=e;subst e;exact⟨by omega,by unfold clkAt;rw[ju];exact b⟩
    · rintro⟨g,a⟩
      have:=qqQ f d (show x.toNat<ps.length by omega) b a;show(j:Int)=x;omega
  |none=>
    have h:=List.findIdx?_eq_none_iff.1 hf;constructor
    · intro e
      have e:(-1:Int)=x:=e;omega
    · rintro⟨g,a⟩
      have c:x.toNat<ps.length:=by omega
      unfold clkAt at a;rw[qdA c] at a;have:=h _ (jo c);rw[a] at this;exact absurd this (by decide)
theorem qfo{ps:List qaz}(h:pinsB ps=true):(2<=ps.length/\ps.length<=5)/\clkAt ps ((ps.length:Int)-1)=false:=by
  unfold pinsB lenB at h;simp only[jf,decide_eq_true_eq] at h;refine⟨h.2.1,?_⟩;have a:=qaI.1 h.1 (ps.length-1) (by omega);unfold pinB at a;rw[show decide (ps.length-1+1=ps.length)=true by simp;omega] at a;simp only[cond_true,jf,jC] at a;unfold clkAt;rw[show((ps.length:Int)-1).toNat=ps.length-1 by omega];exact a.2.2
theorem qsV{ps:List qaz}{a:qak}(h:pinsB ps=true)(b:clkN ps ps.length<=1):arcI ps a=arcS ps a:=by
  obtain⟨⟨D,z⟩,l⟩:=qfo h;rw[jj];unfold arcI arcS;cases h45:((a.Ar==4) || (a.Ar==5)) with
  |true=>
    have B:(a.Ar==1)=false:=by simp at h45⊢;omega
    have u:((a.Ar==2) || (a.Ar==3))=false:=by simp at h45⊢;omega
    rw[B,u];simp only[cond_true,cond_false,jf,qbd,decide_eq_true_eq,beq_iff_eq,jC,beq_eq_false_iff_ne,ne_eq];constructor
    · rintro⟨t,m,s,p,o,r,A⟩
      obtain⟨C,n⟩:=(qnb b o).1 p.symm;have x:a.Bb≠(ps.length:Int)-1:=by intro e;rw[e,l] at n;cases n
      refine⟨⟨⟨o,by omega⟩,⟨r.1,by omega⟩⟩,n,by omega,?_,t,s,m⟩;cases c:clkAt ps a.To with
      |false=>rfl
      |true=>
        have:=(qnb b r.1).2 ⟨by omega,c⟩;omega
    · rintro⟨⟨p,r⟩,n,y,c,t,s,m⟩
      have:=(qnb b p.1).2 ⟨by omega,n⟩;refine⟨t,m,s,this.symm,p.1,⟨r.1,by omega⟩,?_⟩;intro e;rw[e,n] at c;cases c
  |false=>
    simp only[cond_false,jf,qbd,beq_iff_eq];cases (a.Ar==1)
    · cases ((a.Ar==2) || (a.Ar==3))
      · simp
      · simp only[cond_true,cond_false,jf,beq_iff_eq]
        constructor
        · rintro⟨⟨b,d,f,g⟩,i,k⟩
          exact⟨⟨g,by omega⟩,i,f,k,b,d⟩
        · rintro⟨⟨g,v⟩,i,f,k,b,d⟩
          exact⟨⟨b,d,f,g⟩,i,k⟩
    · simp only[cond_true,jf,qbd,jC,beq_iff_eq]
      constructor
      · rintro⟨⟨b,d,f,g⟩,i,k⟩
        exact⟨⟨g,by omega⟩,i,f,k,b,d⟩
      · rintro⟨⟨g,v⟩,i,f,k,b,d⟩
        exact⟨⟨b,d,f,g⟩,i,k⟩
theorem qpF{ps:List qaz}{a:qak}(h:arcS ps a=true):1<=a.Ar/\a.Ar<=5:=by
  unfold arcS at h;rw[jf] at h;have h:=h.2;cases h1:(a.Ar==1)
  · cases h2:((a.Ar==2) || (a.Ar==3))
    · cases h4:((a.Ar==4) || (a.Ar==5))
      · rw[h1,h2,h4] at h;cases h
      · simp at h4;omega
    · simp at h2;omega
  · simp at h1;omega
def sameArc(x y:qak):Bool:=(x.Ar==y.Ar)&&((x.Bb==y.Bb)&&(x.To==y.To))
def newArc(a:List qak)(j:Nat):Bool:=allN (fun i=>!sameArc (gt a i) (gt a j)) j
theorem qrF{c:qA}(h:okL qkA c.As)(f:okL qkN c.Ap)(p:2<=c.As.length):Ev (fun n=>qgs n c) (allN (fun j=>arcI c.As (gt c.Ap j)&&newArc c.Ap j) c.Ap.length&&decide (c.Ap.length<=8)):=by
  have m:=f.len;have i:∀(a:List qak) (y:qak),a.length<=1048576->Ev (fun n=>qaH n a y) (a.any fun x=>sameArc x y):=by
    intro a y m;unfold qaH;refine Ev.bind (b:=ixL (fun x=>sameArc x y) a) (qfK (fin:=(a.length:Int)) (Lf:=qad a y) (pf:=fun n x=>qfv n x y) (fun x _=>?_)
      (fun n=>by simp only[qad,qn (je _),cond_false])
      (fun n j x g=>by
        have d:=(List.getElem?_eq_some_iff.1 g).1;simp only[qad,ql d,cond_true,qfL g,jd,wS j])
      (fun n=>by unfold qbj;congr 1;funext o;cases o<;>rfl)) (Ev.now (by rw[qmj]))
    unfold qfv sameArc;exact Ev.andP fun _=>Ev.andP fun _=>.done
  have k:Ev (fun n=>qcP c n 0) (bif allN (fun j=>arcI c.As (gt c.Ap j)&&newArc c.Ap j) c.Ap.length then .nxt (c.Ap.length:Int) else .ret false):=by
    refine qfp ?_ (fun j d X l=>Ev.succ ?_)
    · exact Ev.succ (by simp only[qcP,qn (je _),cond_false];exact .done)
    · simp only[qcP,ql d,cond_true,qD d,jd,qsD (Nat.le_of_lt d),wS j]
      refine Ev.chk (qtx h (qlr f d) p) fun _=>Ev.chkT1 ?_ (fun _=>l);refine(i _ _ (by simp;omega)).cast ?_;rw[qt0 (Nat.le_of_lt d)];rfl
  unfold qgs;refine Ev.bind k ?_;cases allN (fun j=>arcI c.As (gt c.Ap j)&&newArc c.Ap j) c.Ap.length
  · exact .done
  · refine Ev.now ?_
    show V (decide ((c.Ap.length:Int)<=((8:Nat):Int)))=V (true&&decide (c.Ap.length<=8));rw[qlY,jF]
def hasB(b:List qak)(k:Int):Bool:=b.any fun a=>a.Ar==k
theorem qnD{c:qA}{k:Int}(f:c.Ap.length<=1048576):Ev (fun n=>qdE n c k) (hasB c.Ap k):=by
  unfold qdE qbu;exact Ev.last (Ev.bind (b:=ixL (fun x=>x.Ar==k) c.Ap) (qfK (fin:=(c.Ap.length:Int)) (Lf:=qaj c.Ap k) (pf:=fun n x=>qiL n x k) (fun x _=>.done)
      (fun n=>by simp only[qaj,qn (je _),cond_false])
      (fun n j x a=>by
        have d:=(List.getElem?_eq_some_iff.1 a).1;simp only[qaj,ql d,cond_true,qfL a,jd,wS j])
      (fun n=>by unfold qbO;congr 1;funext o;cases o<;>rfl)) (Ev.now (by rw[qmj];rfl)))
def kindN(a:List qak)(k:Nat)(j:Nat):Nat:=cntP (fun i=>(gt a i).Ar==(k:Int)) j
theorem qpC{a:List qak}{k:Nat}:decide (((kindN a k a.length:Nat):Int) > 0)=hasB a k:=by
  rw[show decide (((kindN a k a.length:Nat):Int) > 0)=decide (0<kindN a k a.length) by simp];unfold kindN hasB;rw[qqB,qrk]
theorem qru{a:List qak}{k:Nat}:(((kindN a k a.length:Nat):Int)==0) = !hasB a k:=by
  rw[<-qpC,jj];simp
theorem qq7{c:qA}(g:okL qkN c.Ap)(h:∀j,j<c.Ap.length->1<=(gt c.Ap j).Ar/\(gt c.Ap j).Ar<=5):Ev (fun n=>qit n c) (vecC (fun k=>kindN c.Ap k c.Ap.length) 6):=by
  have o:=g.len;have d:Ev (fun n=>qdu c n (vecC (fun _=>0) 6) 0) (vecC (fun k=>kindN c.Ap k c.Ap.length) 6,(c.Ap.length:Int)):=by
    refine loopF (Lf:=qdu c) (S:=fun j=>vecC (fun k=>kindN c.Ap k j) 6) (len:=c.Ap.length) (fun n=>?_) (fun j a X f=>?_)
    · simp only[qdu,qn (je _),cond_false]
    · obtain⟨p,r⟩:=h j a
      have b:(gt c.Ap j).Ar=(((gt c.Ap j).Ar.toNat:Nat):Int):=qgT (by omega);have l:kindN c.Ap (gt c.Ap j).Ar.toNat j<=j:=qf0;simp only[qdu,ql a,cond_true,qD a,jd,wS j];rw[b,qjh (show(gt c.Ap j).Ar.toNat<6 by omega)];simp only[jd];rw[qpe (c:=fun k=>kindN c.Ap k j) (by show kindN c.Ap _ j<_;omega)];have:vecC (fun i=>kindN c.Ap i j+(bif decide ((gt c.Ap j).Ar.toNat=i) then 1 else 0)) 6=vecC (fun k=>kindN c.Ap k (j+1)) 6:=by
        refine qjq (fun k _=>?_);show _=kindN c.Ap k j+(bif (gt c.Ap j).Ar==(k:Int) then 1 else 0)
        congr 2
        rw[jj];simp;omega
      rw[this];exact f
  unfold qit;rw[show mkS 6 (0:Int)=V (vecC (fun _=>0) 6) from qlW (m:=6) (by omega)];simp only[jd];exact Ev.bind d .done
def kindB(c:qA):Bool:=
  bif c.Ar==1 then(((clkN c.As c.As.length:Nat):Int)==0)&&(((c.Bo.length:Int)==((2 ^ (c.As.length-1):Nat):Int))&&(c.Bo.all fun x=>inI x 0 1))
  else bif c.Ar==2 then(((clkN c.As c.As.length:Nat):Int)==1)&&(((c.Bo.length:Int)==0)&&(!hasB c.Ap 1&&!(hasB c.Ap 2==hasB c.Ap 3)))
  else bif c.Ar==3 then(((clkN c.As c.As.length:Nat):Int)==1)&&(((c.Bo.length:Int)==0)&&(hasB c.Ap 1&&(hasB c.Ap 2&&!hasB c.Ap 3)))
  else false
theorem qpx{c:qA}(h:kindB c=true):clkN c.As c.As.length<=1:=by
  unfold kindB at h;cases h1:(c.Ar==1)
  · cases h2:(c.Ar==2)
    · cases h3:(c.Ar==3)
      · rw[h1,h2,h3] at h;cases h
      · rw[h1,h2,h3] at h
        simp only[cond_true,cond_false,jf,beq_iff_eq] at h;omega
    · rw[h1,h2] at h
      simp only[cond_true,cond_false,jf,beq_iff_eq] at h;omega
  · rw[h1] at h
    simp only[cond_true,jf,beq_iff_eq] at h;omega
theorem qqM{m:Nat}(a:2<=m)(b:m<=5):shlS 1 (W64 ((m:Int)-1))=V ((2 ^ (m-1):Nat):Int)/\shlS 1 (IntKind.wrap .u64 (W64 ((m:Int)-1)))=V ((2 ^ (m-1):Nat):Int):=by
  have:m=2\/m=3\/m=4\/m=5:=by omega
  rcases this with rfl|rfl|rfl|rfl<;>exact⟨by decide,by decide⟩
theorem qqE{c:qA}(b:qlX c)(k:2<=c.As.length)(g:c.As.length<=5):Ev (fun n=>qfW n c) (kindB c):=by
  have l:=b.As.len;have i:Ev (fun n=>qbk c n 0 0) (((clkN c.As c.As.length:Nat):Int),(c.As.length:Int)):=by
    refine loopF (Lf:=qbk c) (S:=fun j=>((clkN c.As j:Nat):Int)) (len:=c.As.length) (fun n=>?_) (fun j h X d=>?_)
    · simp only[qbk,qn (je _),cond_false]
    · have m:clkN c.As j<=j:=qf0
      simp only[qbk,ql h,cond_true,qD h,jd,wS j,qha (show clkN c.As j<9223372036854775807 by omega)];have f:clkN c.As (j+1)=clkN c.As j+(bif (gt c.As j).Bq then 1 else 0):=rfl;rw[f] at d;cases b:(gt c.As j).Bq
      · rw[b] at d;exact Ev.ff Z d
      · rw[b] at d;exact Ev.tt Z d
  unfold qfW kindB;refine Ev.bind i ?_;simp only[qce,qb8,jd,(qqM k g).1];have a:=b.Ap.len;refine Ev.iff (fun _=>?_) (fun _=>Ev.iff (fun _=>?_) (fun _=>Ev.iff (fun _=>?_) (fun _=>.done)))
  · exact Ev.andP fun _=>Ev.andP fun _=>Ev.last (qga b.Bo.len)
  · exact Ev.andP fun _=>Ev.andP fun _=>Ev.bind (qnD a) (Ev.andP fun _=>Ev.bind (qnD a) (Ev.bind (qnD a) .done))
  · exact Ev.andP fun _=>Ev.andP fun _=>Ev.and (qnD a) fun _=>Ev.and (qnD a) fun _=>Ev.bind (qnD a) .done
def cellB(c:qA):Bool:=
  nameB c.Ba&&(pinsB c.As&&((allN (fun j=>arcI c.As (gt c.Ap j)&&newArc c.Ap j) c.Ap.length&&decide (c.Ap.length<=8))&&(inI c.Cc 0 100000&&(inI c.Bx 0 100000&&kindB c))))
theorem qsP{c:qA}(a:qlX c):Ev (fun n=>qjL n c) (cellB c):=by
  simp only[qjL,qnq a.Ba,qdP,jd];unfold cellB;refine Ev.andP fun _=>Ev.and (qrh a.As) fun f=>?_;obtain⟨⟨d,b⟩,_⟩:=qfo f;exact Ev.and (qrF a.As a.Ap d) fun _=>Ev.andP fun _=>Ev.andP fun _=>Ev.last (qqE a d b)
theorem qrx{c:qA}(d:qlX c):Ev (fun n=>qjN n c) (cellB c):=by
  have p:=d.Ap.len;have r:=d.Bo.len;have e:cellB c=((pinsB c.As&&(nameB c.Ba&&(decide (c.Ap.length<=8)&&(inI c.Cc 0 100000&&inI c.Bx 0 100000))))&&(allN (fun j=>arcS c.As (gt c.Ap j)&&newArc c.Ap j) c.Ap.length&&kindB c)):=by
    unfold cellB;cases l:kindB c
    · simp
    · cases hp:pinsB c.As
      · simp
      · rw[qhB (fun j _=>by rw[qsV hp (qpx l)])]
        cases nameB c.Ba<;>cases allN (fun j=>arcS c.As (gt c.Ap j)&&newArc c.Ap j) c.Ap.length<;>cases decide (c.Ap.length<=8)<;>cases inI c.Cc 0 100000<;>cases inI c.Bx 0 100000<;>rfl
  rw[e];unfold qjN;refine Ev.bind (qrm d.As) ?_;cases hp:pinsB c.As
  · exact .done
  · obtain⟨⟨o,m⟩,_⟩:=qfo hp
    simp only[cond_true,jF,jV,cond_false];refine Ev.guardB ?_ (fun _=>?_)
    · simp only[qcI,jd,qdn]
      refine Ev.orB (qkm d.Ba) fun _=>?_;rw[show decide ((c.Ap.length:Int) > 8) = !decide (c.Ap.length<=8) by rw[jj];simp;omega,qdn];exact Ev.orBP fun _=>Ev.orBP fun _=>.done
    · have g:∀j,j<c.Ap.length->Ev (fun n=>qdG c (j:Int) (gt c.Ap j) n 0) (bif newArc c.Ap j then .nxt (j:Int) else .ret false):=by
        intro j a;refine qfp ?_ (fun i hi X b=>Ev.succ ?_)
        · exact Ev.succ (by simp only[qdG,qn (je _),cond_false];exact .done)
        · simp only[qdG,ql hi,cond_true,qD (show i<c.Ap.length by omega),jd,wS i]
          unfold sameArc;cases ((gt c.Ap i).Ar==(gt c.Ap j).Ar)
          · exact b
          · cases ((gt c.Ap i).Bb==(gt c.Ap j).Bb)
            · exact b
            · cases ((gt c.Ap i).To==(gt c.Ap j).To)
              · exact b
              · exact .done
      have f:Ev (fun n=>qfI c n 0) (bif allN (fun j=>arcS c.As (gt c.Ap j)&&newArc c.Ap j) c.Ap.length then .nxt (c.Ap.length:Int) else .ret false):=by
        refine qfp ?_ (fun j a X b=>Ev.succ ?_)
        · exact Ev.succ (by simp only[qfI,qn (je _),cond_false];exact .done)
        · simp only[qfI,ql a,cond_true,qD a,jd,wS j]
          refine Ev.chk (qsw d.As (qlr d.Ap a) o) fun _=>Ev.bind (g j a) ?_;cases newArc c.Ap j
          · exact .done
          · exact b
      have h:Ev (fun n=>qfz c n 0) (bif (c.Bo.all fun x=>inI x 0 1) then .nxt (c.Bo.length:Int) else .ret false):=
        qmA (fun n=>by simp only[qfz,qn (je _),cond_false]) (fun j a X b=>by
          simp only[qfz,ql a,cond_true,qbC a,jd,qcI,wS j,qdn];exact Ev.okP1 fun _=>b)
      refine Ev.bind f ?_;cases hA:allN (fun j=>arcS c.As (gt c.Ap j)&&newArc c.Ap j) c.Ap.length
      · exact .done
      · have l:∀j,j<c.Ap.length->1<=(gt c.Ap j).Ar/\(gt c.Ap j).Ar<=5:=fun j a=>by
          have:=qaI.1 hA j a;rw[jf] at this;exact qpF this.1
        simp only[cond_true,jF];refine Ev.bind (qq7 d.Ap l) ?_;simp only[(qqM o m).2,jd,
          show idx (vecC (fun k=>kindN c.Ap k c.Ap.length) 6) (1:Int)=V ((kindN c.Ap 1 c.Ap.length:Nat):Int) from qjh (k:=1) (by omega),
          show idx (vecC (fun k=>kindN c.Ap k c.Ap.length) 6) (2:Int)=V ((kindN c.Ap 2 c.Ap.length:Nat):Int) from qjh (k:=2) (by omega),
          show idx (vecC (fun k=>kindN c.Ap k c.Ap.length) 6) (3:Int)=V ((kindN c.Ap 3 c.Ap.length:Nat):Int) from qjh (k:=3) (by omega),qpC,qru]
        unfold kindB;refine Ev.iff (fun _=>?_) (fun _=>Ev.iff (fun _=>?_) (fun _=>Ev.iff (fun _=>?_) (fun _=>.done)))
        · refine Ev.bind h ?_
          cases (c.Bo.all fun x=>inI x 0 1)
          · exact Ev.now (by simp)
          · exact(Ev.andP (fun _=>.done)).cast (by rw[Bool.and_true])
        · refine(Ev.andP fun _=>Ev.andP fun _=>Ev.andP fun _=>.done).cast ?_
          cases (((clkN c.As c.As.length:Nat):Int)==1)<;>cases ((c.Bo.length:Int)==0)<;>cases hasB c.Ap ((1:Nat):Int)<;>cases hasB c.Ap ((2:Nat):Int)<;>cases hasB c.Ap ((3:Nat):Int)<;>rfl
        · refine(Ev.andP fun _=>Ev.andP fun _=>Ev.andP fun _=>Ev.andP fun _=>.done).cast ?_
          cases (((clkN c.As c.As.length:Nat):Int)==1)<;>cases ((c.Bo.length:Int)==0)<;>cases hasB c.Ap ((1:Nat):Int)<;>cases hasB c.Ap ((2:Nat):Int)<;>cases hasB c.Ap ((3:Nat):Int)<;>rfl
def libB(l:qr):Bool:=l.Aj.all cellB&&(decide (l.Aj.length<=8)&&namesB (l.Aj.map qA.Ba))
theorem qp6{l:qr}(h:qgL l):Ev (fun n=>qh5 n l) (libB l):=by
  have d:=h.Aj.len;have b:Ev (fun n=>qc1 l n ([]:List ByteArray) 0) (bif allN (fun j=>cellB (gt l.Aj j)) l.Aj.length then .nxt (l.Aj.map qA.Ba,(l.Aj.length:Int)) else .ret false):=by
    refine loopN (Lf:=qc1 l) (S:=fun j=>(l.Aj.take j).map qA.Ba) (fun j=>cellB (gt l.Aj j)) (fun n=>?_) (fun j a i X c=>?_)
    · simp only[qc1,qn (je _),cond_false,jK]
    · simp only[qc1,ql a,cond_true,qD a,jd,qj8 a d,qgd (g:=qA.Ba) a,wS j]
      exact Ev.chk1 (qsP (qlr h.Aj a)) c
  unfold qh5 libB;rw[qhM];refine Ev.bind b ?_;cases allN (fun j=>cellB (gt l.Aj j)) l.Aj.length
  · exact .done
  · simp only[cond_true,jF,show decide ((l.Aj.length:Int)<=8)=decide (l.Aj.length<=8) from qlY (k:=8)]
    exact Ev.andP fun _=>Ev.last (qiA (qlR h.Aj (fun x f=>f.Ba)))

theorem qry{c:qA}(h:cellB c=true):nameB c.Ba=true:=by
 unfold cellB at h;rw[jf] at h;exact h.1
theorem qgO{c:qA}(h:cellB c=true):pinsB c.As=true:=by
 unfold cellB at h;simp only[jf] at h;exact h.2.1
theorem qo3{l:qr}(h:qgL l):Ev (fun n=>qh7 n l) (libB l):=by
 have f:=h.Aj.len;have c:∀j,j<l.Aj.length->Ev (fun n=>qdN l (j:Int) n 0) (bif allN (neB (l.Aj.map qA.Ba) j) j then .nxt (j:Int) else .ret false):=by
  intro j a;refine qfp ?_ (fun i hi X d=>Ev.succ ?_)
  ·exact Ev.succ (by simp only[qdN,qn (je _),cond_false];exact .done)
  ·simp only[qdN,ql hi,cond_true,qD (show i<l.Aj.length by omega),qD a,jd,qhe,wS i];unfold neB;rw[qi9 (g:=qA.Ba) (show i<l.Aj.length by omega),qi9 (g:=qA.Ba) a];exact Ev.chkP1 (fun _=>d)
 have b:Ev (fun n=>qdQ l n 0) (bif allN (fun j=>cellB (gt l.Aj j)&&allN (neB (l.Aj.map qA.Ba) j) j) l.Aj.length then .nxt (l.Aj.length:Int) else .ret false):=by
  refine qfp ?_ (fun j a X d=>Ev.succ ?_)
  ·exact Ev.succ (by simp only[qdQ,qn (je _),cond_false];exact .done)
  ·simp only[qdQ,ql a,cond_true,qD a,jd,wS j];refine Ev.chk (qrx (qlr h.Aj a)) fun _=>Ev.bind (c j a) ?_;cases allN (neB (l.Aj.map qA.Ba) j) j
   ·exact .done
   ·exact d
 have e:libB l=(allN (fun j=>cellB (gt l.Aj j)&&allN (neB (l.Aj.map qA.Ba) j) j) l.Aj.length&&decide (l.Aj.length<=8)):=by
  unfold libB namesB;rw[qhM,jp,Bool.and_comm (decide (l.Aj.length<=8)),<-Bool.and_assoc,<-qkb]
  congr 1
  refine qhB (fun j a=>?_);rw[qi9 (g:=qA.Ba) a];cases hc:cellB (gt l.Aj j)
  ·rfl
  ·rw[qry hc];rfl
 rw[e];unfold qh7;refine Ev.bind b ?_;cases allN (fun j=>cellB (gt l.Aj j)&&allN (neB (l.Aj.map qA.Ba) j) j) l.Aj.length
 ·exact .done
 ·refine Ev.now ?_;show V (decide ((l.Aj.length:Int)<=((8:Nat):Int)))=V (true&&decide (l.Aj.length<=8));rw[qlY,jF]
theorem qj9{c c':Nat->Nat}{m:Nat}{x:Int}(b:0<=x)(h:x<m)(d:c x.toNat<9223372036854775807)(f:∀k,k<m->c' k=c k+(bif x==(k:Int) then 1 else 0)) :
  idx (vecC c m) x=V (c x.toNat:Int)/\setS (vecC c m) x (W64 ((c x.toNat:Int)+1))=vecC c' m:=by
 have ex:x=(x.toNat:Int):=qgT b;have e1:=qjh (c:=c) (m:=m) (k:=x.toNat) (by omega);have a:=qpe (c:=c) (m:=m) (k:=x.toNat) d;rw[<-ex] at e1 a;refine⟨e1,a.trans (qjq (fun k g=>?_))⟩;rw[f k g]
 congr 2
 rw[jj];simp;omega
def netB(d:qh)(x:Int):Bool:=inI x 0 ((d.Ai.length:Int)-1)
theorem qq4{n:Nat}{d:qh}{x:Int}(a:d.Ai.length<=1048576):qdR n d x=V (netB d x):=by
 simp only[qdR,qhv,jd,qdP,qe9 (show d.Ai.length<=9223372036854775807 by omega)];rfl
theorem qpz{n:Nat}{d:qh}{x:Int}(a:d.Ai.length<=1048576):qag n x 0 (W64 ((d.Ai.length:Int)-1))=V (netB d x):=by
 rw[qcI,qe9 (show d.Ai.length<=9223372036854775807 by omega)];rfl
def hasNamesB(d:qh):Bool:=(decide (d.Ab.length<=14)&&(decide (d.Ai.length<=30)&&decide (d.Af.length<=8)))&&(namesB (d.Ab.map qz.Ba)&&(namesB d.Ai&&namesB (d.Af.map qai.Ba)))
theorem qqs{d:qh}(h:qjb d):Ev (fun n=>qfh n d) (hasNamesB d):=by
 have i:=h.Ab.len;have l:=h.Af.len;have b:Ev (fun n=>qbw d n ([]:List ByteArray) 0) (d.Ab.map qz.Ba,(d.Ab.length:Int)):=by
  refine loopF (Lf:=qbw d) (S:=fun j=>(d.Ab.take j).map qz.Ba) (len:=d.Ab.length) (fun n=>?_) (fun j a X f=>?_)
  ·simp only[qbw,qn (je _),cond_false,jK]
  ·simpa only[qbw,ql a,cond_true,qD a,jd,qj8 a i,qgd (g:=qz.Ba) a,wS j] using f
 have c:Ev (fun n=>qby d n ([]:List ByteArray) 0) (d.Af.map qai.Ba,(d.Af.length:Int)):=by
  refine loopF (Lf:=qby d) (S:=fun j=>(d.Af.take j).map qai.Ba) (len:=d.Af.length) (fun n=>?_) (fun j a X f=>?_)
  ·simp only[qby,qn (je _),cond_false,jK]
  ·simpa only[qby,ql a,cond_true,qD a,jd,qj8 a l,qgd (g:=qai.Ba) a,wS j] using f
 unfold qfh hasNamesB;refine Ev.bind b (Ev.bind c ?_);simp only[jp];rw[show decide ((d.Ab.length:Int)<=14)=decide (d.Ab.length<=14) from qlY (k:=14),show decide ((d.Ai.length:Int)<=30)=decide (d.Ai.length<=30) from qlY (k:=30),show decide ((d.Af.length:Int)<=8)=decide (d.Af.length<=8) from qlY (k:=8)];rw[Bool.and_assoc,Bool.and_assoc];exact Ev.andP fun _=>Ev.andP fun _=>Ev.andP fun _=>Ev.and (qiA (qlR h.Ab (fun x m=>m.Ba))) fun _=>Ev.and (qiA h.Ai) fun _=>Ev.last (qiA (qlR h.Af (fun x m=>m.Ba)))
def instB(l:qr)(d:qh)(x:qz):Bool:=inI x.Bn 0 ((l.Aj.length:Int)-1)&&(((x.Ai.length:Int)==((gt l.Aj x.Bn.toNat).As.length:Int))&&x.Ai.all (netB d))
theorem qo4{d:qh}{l:qr}{x:qz}(g:d.Ai.length<=1048576)(h:l.Aj.length<=1048576)(a:x.Ai.length<=1048576):Ev (fun n=>qeh n d l x) (instB l d x):=by
 simp only[qeh,qgp,jd,qdP,qe9 (show l.Aj.length<=9223372036854775807 by omega)];unfold instB;refine Ev.andP fun c=>?_;rw[qbd] at c;rw[qdV c.1 (by omega)];simp only[jd];refine Ev.andP fun _=>Ev.bind (b:=x.Ai.any fun y=>!netB d y) ?_ (Ev.now (by rw[qoa]));unfold qaX;exact Ev.bind (b:=ixL (fun y=>!netB d y) x.Ai) (qfK (fin:=(x.Ai.length:Int)) (Lf:=qaa x.Ai d) (pf:=fun n y=>qdB n y d) (fun y _=>⟨0,fun n _=>by simp only[qdB,qq4 g,jd]⟩)
   (fun n=>by simp only[qaa,qn (je _),cond_false])
   (fun n j y a=>by
    have f:=(List.getElem?_eq_some_iff.1 a).1;simp only[qaa,ql f,cond_true,qfL a,jd,wS j])
   (fun n=>by unfold qa9;congr 1;funext o;cases o<;>rfl)) (Ev.now (by rw[qmj]))
def portB(d:qh)(p:qai):Bool:=inI p.Bw 1 2&&netB d p.Bz
theorem qvF{x:Int}:inI x 1 2=((x==1) || (x==2)):=by
 unfold inI;rw[jj];simp;omega
def lastN(x:qz):Int:=at0 x.Ai (x.Ai.length-1)
theorem qq2{x:qz}(a:1<=x.Ai.length)(b:x.Ai.length<=1048576):idx x.Ai (W64 ((x.Ai.length:Int)-1))=V (lastN x):=by
 rw[qe9 (by omega),show((x.Ai.length:Int)-1)=((x.Ai.length-1:Nat):Int) by omega,qaA (by omega)];rfl
theorem qsv{d:qh}{x:qz}(a:1<=x.Ai.length)(h:x.Ai.all (netB d)=true):0<=lastN x/\lastN x<d.Ai.length:=by
 rw[qgN (d:=0),qaI] at h;have:=h (x.Ai.length-1) (by omega);unfold netB at this;rw[qbd] at this;unfold lastN at0;omega
theorem qou{l:qr}{d:qh}{x:qz}(a:libB l=true)(h:instB l d x=true):1<=x.Ai.length/\0<=lastN x/\lastN x<d.Ai.length:=by
 unfold instB at h;simp only[jf,qbd,beq_iff_eq] at h;obtain⟨g,i,f⟩:=h;unfold libB at a;simp only[jf] at a;have c:=a.1;rw[qhM,qaI] at c;have:=qfo (qgO (c x.Bn.toNat (by omega)));have b:1<=x.Ai.length:=by omega
 exact⟨b,qsv b f⟩
def drvI(d:qh)(k j:Nat):Nat:=cntP (fun i=>lastN (gt d.Ab i)==(k:Int)) j
def drvP(d:qh)(k j:Nat):Nat:=cntP (fun i=>((gt d.Af i).Bw==1)&&((gt d.Af i).Bz==(k:Int))) j
def drvB(d:qh):Bool:=allN (fun k=>((drvI d k d.Ab.length+drvP d k d.Af.length:Nat):Int)==1) d.Ai.length
def designB(l:qr)(d:qh):Bool:=(libB l&&hasNamesB d)&&(d.Ab.all (instB l d)&&(d.Af.all (portB d)&&drvB d))
theorem qm5{d:qh}{k j:Nat}:drvI d k (j+1)=drvI d k j+(bif lastN (gt d.Ab j)==(k:Int) then 1 else 0):=rfl
theorem qlU{d:qh}{k j:Nat}:drvP d k (j+1)=drvP d k j+(bif ((gt d.Af j).Bw==1)&&((gt d.Af j).Bz==(k:Int)) then 1 else 0):=rfl
theorem qqK{l:qr}{d:qh}(h:qgL l)(g:qjb d):Ev (fun n=>qiu n l d) (designB l d):=by
 have I:=g.Ab.len;have J:=g.Af.len;have i:=g.Ai.len;have v:=h.Aj.len;unfold qiu designB;refine Ev.guardB (Ev.or (qp6 h) fun _=>Ev.neg (qqs g)) fun z=>?_;rw[jf] at z;rw[qlW (m:=d.Ai.length) (by omega)];simp only[jd];have t:Ev (fun n=>qdp l d n (vecC (fun _=>0) d.Ai.length) 0) (bif allN (fun j=>instB l d (gt d.Ab j)) d.Ab.length then .nxt (vecC (fun k=>drvI d k d.Ab.length) d.Ai.length,(d.Ab.length:Int)) else .ret false):=by
  refine loopN (Lf:=qdp l d) (S:=fun j=>vecC (fun k=>drvI d k j) d.Ai.length) (fun j=>instB l d (gt d.Ab j)) (fun n=>?_) (fun j a K X f=>?_)
  ·simp only[qdp,qn (je _),cond_false]
  ·simp only[qdp,ql a,cond_true,qD a,jd,wS j];have p:=(qlr g.Ab a).Ai.len;refine Ev.chk1 (qo4 i v p) fun hi=>?_;obtain⟨r,B,C⟩:=qou z.1 hi;have L:drvI d (lastN (gt d.Ab j)).toNat j<=j:=qf0;obtain⟨e1,s⟩:=qj9 (c:=fun k=>drvI d k j) (c':=fun k=>drvI d k (j+1)) B C (by show drvI _ _ _<_;omega) (fun k _=>qm5);simp only[qq2 r p,jd,e1,s];exact f hi
 have u:Ev (fun n=>qcR d n (vecC (fun k=>drvI d k d.Ab.length) d.Ai.length) 0) (bif allN (fun j=>portB d (gt d.Af j)) d.Af.length then .nxt (vecC (fun k=>drvI d k d.Ab.length+drvP d k d.Af.length) d.Ai.length,(d.Af.length:Int)) else .ret false):=by
  refine loopN (Lf:=qcR d) (S:=fun j=>vecC (fun k=>drvI d k d.Ab.length+drvP d k j) d.Ai.length) (fun j=>portB d (gt d.Af j)) (fun n=>?_) (fun j a K X f=>?_)
  ·simp only[qcR,qn (je _),cond_false]
  ·simp only[qcR,ql a,cond_true,qD a,jd,qq4 i,bne,wS j];refine Ev.chkT1 ?_ fun hi=>?_
   ·unfold portB;rw[qvF];cases ((gt d.Af j).Bw==1)<;>cases ((gt d.Af j).Bw==2)<;>exact .done
   ·have f:=f hi;unfold portB netB at hi;simp only[jf,qbd] at hi;have D:drvI d (gt d.Af j).Bz.toNat d.Ab.length<=d.Ab.length:=qf0;have F:drvP d (gt d.Af j).Bz.toNat j<=j:=qf0;cases r:((gt d.Af j).Bw==1)
    ·have:vecC (fun k=>drvI d k d.Ab.length+drvP d k (j+1)) d.Ai.length=vecC (fun k=>drvI d k d.Ab.length+drvP d k j) d.Ai.length:=by
      refine qjq (fun k _=>?_);rw[qlU,r];rfl
     rw[this] at f;exact f
    ·obtain⟨e1,s⟩:=qj9 (c:=fun k=>drvI d k d.Ab.length+drvP d k j) (c':=fun k=>drvI d k d.Ab.length+drvP d k (j+1)) (x:=(gt d.Af j).Bz) (m:=d.Ai.length) hi.2.1 (by omega) (by show drvI _ _ _+drvP _ _ _<_;omega) (fun k _=>by rw[qlU,r,jF];omega);simp only[cond_true,jd,e1,s];exact f
 rw[qhM,qhM];refine Ev.bind t ?_;cases allN (fun j=>instB l d (gt d.Ab j)) d.Ab.length
 ·exact .done
 ·refine Ev.bind u ?_;cases allN (fun j=>portB d (gt d.Af j)) d.Af.length
  ·exact .done
  ·simp only[cond_true,jF];unfold qb0;refine Ev.bind (b:=(vecC (fun k=>drvI d k d.Ab.length+drvP d k d.Af.length) d.Ai.length).any fun x=>!(x==1)) (Ev.bind (b:=ixL (fun x=>!(x==1)) (vecC (fun k=>drvI d k d.Ab.length+drvP d k d.Af.length) d.Ai.length)) (qfK (fin:=(((vecC (fun k=>drvI d k d.Ab.length+drvP d k d.Af.length) d.Ai.length).length:Nat):Int)) (Lf:=qas (vecC (fun k=>drvI d k d.Ab.length+drvP d k d.Af.length) d.Ai.length)) (pf:=fun n y=>qiO n y) (fun y _=>.done)
    (fun n=>by simp only[qas,qn (je _),cond_false])
    (fun n j y A=>by
     have a:=(List.getElem?_eq_some_iff.1 A).1;have:j<d.Ai.length:=by rw[qlG] at a;exact a
     simp only[qas,ql a,cond_true,qfL A,jd,wS j])
    (fun n=>by unfold qcj;congr 1;funext o;cases o<;>rfl)) (Ev.now (by rw[qmj]))) (Ev.now ?_)
   rw[qoa,qgN (d:=0),qlG];unfold drvB
   congr 1
   exact qhB (fun k H=>by
    have:=qqI (c:=fun k=>drvI d k d.Ab.length+drvP d k d.Af.length) H;unfold at0 at this;rw[this])
theorem qqD{l:qr}{d:qh}(h:qgL l)(f:qjb d):Ev (fun n=>qir n l d) (d.Ab.all (instB l d)&&d.Af.all (portB d)):=by
 have r:=f.Ab.len;have s:=f.Af.len;have c:=f.Ai.len;have p:=h.Aj.len;have i:∀x:qz,x.Ai.length<=1048576->Ev (fun n=>qew d x n 0) (bif x.Ai.all (netB d) then .nxt (x.Ai.length:Int) else .ret false):=fun x t=>
  qmA (fun n=>by simp only[qew,qn (je _),cond_false]) (fun j a X b=>by
   simp only[qew,ql a,cond_true,qbC a,jd,qpz c,wS j,qdn];exact Ev.okP1 fun _=>b)
 have g:Ev (fun n=>qeu l d n 0) (bif allN (fun j=>instB l d (gt d.Ab j)) d.Ab.length then .nxt (d.Ab.length:Int) else .ret false):=by
  refine qfp ?_ (fun j a X b=>Ev.succ ?_)
  ·exact Ev.succ (by simp only[qeu,qn (je _),cond_false];exact .done)
  ·simp only[qeu,ql a,cond_true,qD a,jd,qcI,qe9 (show l.Aj.length<=9223372036854775807 by omega),wS j,bne];have m:=(qlr f.Ab a).Ai.len;unfold instB;rw[<-Bool.and_assoc];refine Ev.chkT ?_ fun _=>Ev.bind (i _ m) ?_
   ·simp only[qdn];refine Ev.orBP fun o=>?_;rw[qbd] at o;rw[qdV o.1 (by omega)];exact .done
   ·cases (gt d.Ab j).Ai.all (netB d)
    ·exact .done
    ·exact b
 have k:Ev (fun n=>qey d n 0) (bif allN (fun j=>portB d (gt d.Af j)) d.Af.length then .nxt (d.Af.length:Int) else .ret false):=by
  refine qfp ?_ (fun j a X b=>Ev.succ ?_)
  ·exact Ev.succ (by simp only[qey,qn (je _),cond_false];exact .done)
  ·simp only[qey,ql a,cond_true,qD a,jd,qpz c,wS j];simp only[qcI,jd,qdn];unfold portB;exact Ev.okP fun _=>Ev.okP1 fun _=>b
 unfold qir;rw[qhM,qhM];refine Ev.bind g ?_;cases allN (fun j=>instB l d (gt d.Ab j)) d.Ab.length
 ·exact .done
 ·refine Ev.bind k ?_;cases allN (fun j=>portB d (gt d.Af j)) d.Af.length<;>exact .done
theorem qqg{l:qr}{d:qh}(h:qgL l)(i:qjb d):Ev (fun n=>qis n l d) (designB l d):=by
 have J:=i.Ab.len;have K:=i.Af.len;have W:=i.Ai.len;have T:=h.Aj.len;have e:designB l d=((libB l&&(decide (d.Ab.length<=14)&&(decide (d.Ai.length<=30)&&(decide (d.Af.length<=8)&&(d.Ab.all (instB l d)&&d.Af.all (portB d))))))&&((namesB (d.Ab.map qz.Ba)&&(namesB (d.Af.map qai.Ba)&&namesB d.Ai))&&drvB d)):=by
  unfold designB hasNamesB;generalize libB l=a1;generalize decide (d.Ab.length<=14)=a2;generalize decide (d.Ai.length<=30)=a3;generalize decide (d.Af.length<=8)=a4;generalize d.Ab.all (instB l d)=a5;generalize d.Af.all (portB d)=a6;generalize namesB (d.Ab.map qz.Ba)=a7;generalize namesB (d.Af.map qai.Ba)=a8;generalize namesB d.Ai=a9;generalize drvB d=a10;rw[jj];simp only[jf];constructor
  ·rintro⟨⟨f,⟨p,r,u⟩,z,B,A⟩,v,y,o⟩;exact⟨⟨f,p,r,u,v,y⟩,⟨z,A,B⟩,o⟩
  ·rintro⟨⟨f,p,r,u,v,y⟩,⟨z,A,B⟩,o⟩;exact⟨⟨f,⟨p,r,u⟩,z,B,A⟩,v,y,o⟩
 rw[e];unfold qis;refine Ev.guardB ?_ fun P=>?_
 ·refine Ev.or (qo3 h) fun _=>?_;rw[show decide ((d.Ab.length:Int) > 14) = !decide (d.Ab.length<=14) by rw[jj];simp;omega,show decide ((d.Ai.length:Int) > 30) = !decide (d.Ai.length<=30) by rw[jj];simp;omega,show decide ((d.Af.length:Int) > 8) = !decide (d.Af.length<=8) by rw[jj];simp;omega];simp only[qdn];exact Ev.orBP fun _=>Ev.orBP fun _=>Ev.orBP fun _=>Ev.neg (qqD h i)
 ·simp only[jf] at P;obtain⟨s,_,_,_,N,O⟩:=P;rw[qhM,qaI] at N O;have C:Ev (fun n=>qdw d n ([]:List ByteArray) 0) (d.Ab.map qz.Ba,(d.Ab.length:Int)):=by
   refine loopF (Lf:=qdw d) (S:=fun j=>(d.Ab.take j).map qz.Ba) (len:=d.Ab.length) (fun n=>?_) (fun j a X b=>?_)
   ·simp only[qdw,qn (je _),cond_false,jK]
   ·simpa only[qdw,ql a,cond_true,qD a,jd,qj8 a J,qgd (g:=qz.Ba) a,wS j] using b
  have D:Ev (fun n=>qdy d n ([]:List ByteArray) 0) (d.Af.map qai.Ba,(d.Af.length:Int)):=by
   refine loopF (Lf:=qdy d) (S:=fun j=>(d.Af.take j).map qai.Ba) (len:=d.Af.length) (fun n=>?_) (fun j a X b=>?_)
   ·simp only[qdy,qn (je _),cond_false,jK]
   ·simpa only[qdy,ql a,cond_true,qD a,jd,qj8 a K,qgd (g:=qai.Ba) a,wS j] using b
  have F:Ev (fun n=>qdq d n (vecC (fun _=>0) d.Ai.length) 0) (vecC (fun k=>drvI d k d.Ab.length) d.Ai.length,(d.Ab.length:Int)):=by
   refine loopF (Lf:=qdq d) (S:=fun j=>vecC (fun k=>drvI d k j) d.Ai.length) (len:=d.Ab.length) (fun n=>?_) (fun j a X b=>?_)
   ·simp only[qdq,qn (je _),cond_false]
   ·have M:=(qlr i.Ab a).Ai.len;obtain⟨f,p,r⟩:=qou s (N j a);have Y:drvI d (lastN (gt d.Ab j)).toNat j<=j:=qf0;obtain⟨e1,t⟩:=qj9 (c:=fun k=>drvI d k j) (c':=fun k=>drvI d k (j+1)) p r (by show drvI _ _ _<_;omega) (fun k _=>qm5);simpa only[qdq,ql a,cond_true,qD a,jd,wS j,qq2 f M,e1,t] using b
  have H:Ev (fun n=>qcJ d n (vecC (fun k=>drvI d k d.Ab.length) d.Ai.length) 0) (vecC (fun k=>drvI d k d.Ab.length+drvP d k d.Af.length) d.Ai.length,(d.Af.length:Int)):=by
   refine loopF (Lf:=qcJ d) (S:=fun j=>vecC (fun k=>drvI d k d.Ab.length+drvP d k j) d.Ai.length) (len:=d.Af.length) (fun n=>?_) (fun j a X b=>?_)
   ·simp only[qcJ,qn (je _),cond_false]
   ·have hi:=O j a;unfold portB netB at hi;simp only[jf,qbd] at hi;have Q:drvI d (gt d.Af j).Bz.toNat d.Ab.length<=d.Ab.length:=qf0;have R:drvP d (gt d.Af j).Bz.toNat j<=j:=qf0;simp only[qcJ,ql a,cond_true,qD a,jd,wS j];cases f:((gt d.Af j).Bw==1)
    ·have:vecC (fun k=>drvI d k d.Ab.length+drvP d k (j+1)) d.Ai.length=vecC (fun k=>drvI d k d.Ab.length+drvP d k j) d.Ai.length:=by
      refine qjq (fun k _=>?_);rw[qlU,f];rfl
     rw[this] at b;exact b
    ·obtain⟨e1,t⟩:=qj9 (c:=fun k=>drvI d k d.Ab.length+drvP d k j) (c':=fun k=>drvI d k d.Ab.length+drvP d k (j+1)) (x:=(gt d.Af j).Bz) (m:=d.Ai.length) hi.2.1 (by omega) (by show drvI _ _ _+drvP _ _ _<_;omega) (fun k _=>by rw[qlU,f,jF];omega);simp only[cond_true,jd,e1,t];exact b
  have I:Ev (fun n=>qeA (vecC (fun _=>0) d.Ai.length) (vecC (fun k=>drvI d k d.Ab.length+drvP d k d.Af.length) d.Ai.length) n 0) (bif drvB d then .nxt (d.Ai.length:Int) else .ret false):=by
   refine qfp ?_ (fun j a X b=>Ev.succ ?_)
   ·exact Ev.succ (by simp only[qeA,qlG,qn (je _),cond_false];exact .done)
   ·simp only[qeA,qlG,ql a,cond_true,qjh a,jd,bne,qdn,wS j];exact Ev.okP1 fun _=>b
  refine Ev.bind C (Ev.bind D ?_);refine Ev.guardB (Ev.or (qli (qlR i.Ab (fun x L=>L.Ba))) fun _=>Ev.or (qli (qlR i.Af (fun x L=>L.Ba))) fun _=>Ev.neg (qli i.Ai)) fun _=>?_;rw[qlW (m:=d.Ai.length) (by omega)];simp only[jd];refine Ev.bind F (Ev.bind H (Ev.bind I ?_));cases drvB d<;>exact .done

theorem qt5{m k:Nat}:decide ((m:Int)<(k:Int)) = !decide (k<=m):=by rw[jj];simp
theorem quO{m k:Nat}:decide ((m:Int) > (k:Int)) = !decide (m<=k):=by rw[jj];simp
def treeB(w:qV)(j:Nat):Bool:=bif decide (j=0) then(at0 w.Ak j==-1)&&(at0 w.Bt j==0) else inI (at0 w.Ak j) 0 ((j:Int)-1)
def wireB(w:qV)(s:Int):Bool:=
 lenB w.Ak 1 8&&(((w.Bt.length:Int)==(w.Ak.length:Int))&&(((w.Bp.length:Int)==(w.Ak.length:Int))&&(allN (treeB w) w.Ak.length &&
  ((w.Bt.all fun x=>inI x 0 1000)&&((w.Bp.all fun x=>inI x 0 500)&&(((w.Bc.length:Int)==s)&&(w.Bc.all fun x=>inI x 0 ((w.Ak.length:Int)-1))))))))
theorem qsQ{w:qV}(i:w.Ak.length<=1048576)(h:((w.Bt.length:Int)==(w.Ak.length:Int))=true):Ev (fun n=>qgU n w) (allN (treeB w) w.Ak.length):=by
 rw[beq_iff_eq] at h;have g:Ev (fun n=>qbo w n 0) (bif allN (treeB w) w.Ak.length then .nxt (w.Ak.length:Int) else .ret false):=by
  refine qfp ?_ (fun j b X a=>Ev.succ ?_)
  ·exact Ev.succ (by simp only[qbo,qn (je _),cond_false];exact .done)
  ·simp only[qbo,ql b,cond_true,qaA b,jd,qdP,wS j,bne,qdn];unfold treeB;by_cases f:j=0
   ·subst f;rw[show idx w.Bt (0:Int)=V (at0 w.Bt 0) from qaA (j:=0) (by omega)];simp only[jd];refine Ev.tt (by simp) (Ev.okP fun _=>Ev.okP1 fun _=>Ev.ff (by simp) a)
   ·have e1:decide (j=0)=false:=by simp;omega
    have c:((j:Int)==0)=false:=by simp;omega
    have d:decide ((j:Int) > 0)=true:=by simp;omega
    rw[e1,c,d,qe9 (show j<=9223372036854775807 by omega)];simp only[cond_false,cond_true];exact Ev.okP1 fun _=>a
 unfold qgU;refine Ev.bind g ?_;cases allN (treeB w) w.Ak.length<;>exact .done
theorem qsh{w:qV}{s:Int}(h:qmR w):Ev (fun n=>qjG n w s) (wireB w s):=by
 have a:=h.Ak.len;simp only[qjG,qaO,jd,qdP,qe9 (show w.Ak.length<=9223372036854775807 by omega)];unfold wireB;rw[show inI (w.Ak.length:Int) 1 8=lenB w.Ak 1 8 from qpT (lo:=1) (hi:=8)];exact Ev.andP fun _=>Ev.andP fun b=>Ev.andP fun _=>Ev.and (qsQ a b) fun _=>Ev.and (qga h.Bt.len) fun _=>Ev.and (qga h.Bp.len) fun _=>Ev.andP fun _=>Ev.last (qga h.Bc.len)
theorem qrI{w:qV}{s:Int}(h:qmR w):Ev (fun n=>qjJ n w s) (wireB w s):=by
 have r:=h.Ak.len;have o:=h.Bc.len;have e:wireB w s=((decide (1<=w.Ak.length)&&(decide (w.Ak.length<=8)&&(((w.Bt.length:Int)==(w.Ak.length:Int))&&(((w.Bp.length:Int)==(w.Ak.length:Int))&&((w.Bc.length:Int)==s)))))&&(allN (fun j=>(inI (at0 w.Bp j) 0 500&&inI (at0 w.Bt j) 0 1000)&&treeB w j) w.Ak.length&&(w.Bc.all fun x=>inI x 0 ((w.Ak.length:Int)-1)))):=by
  unfold wireB lenB;cases h1:((w.Bt.length:Int)==(w.Ak.length:Int))
  ·simp
  ·cases h2:((w.Bp.length:Int)==(w.Ak.length:Int))
   ·simp
   ·rw[beq_iff_eq] at h1 h2;rw[qkb,qkb];rw[qgN (p:=fun x=>inI x 0 1000) (d:=0),qgN (p:=fun x=>inI x 0 500) (d:=0),show w.Bt.length=w.Ak.length by omega,show w.Bp.length=w.Ak.length by omega];show _=(_&&((allN (fun j=>inI (w.Bp.getD j 0) 0 500) _&&allN (fun j=>inI (w.Bt.getD j 0) 0 1000) _&&_)&&_));generalize allN (fun j=>inI (w.Bp.getD j 0) 0 500) w.Ak.length=a1;generalize allN (fun j=>inI (w.Bt.getD j 0) 0 1000) w.Ak.length=a2;generalize allN (fun j=>treeB w j) w.Ak.length=a3;generalize ((w.Bc.length:Int)==s)=a4;generalize decide (1<=w.Ak.length)=a5;generalize decide (w.Ak.length<=8)=a6;generalize (w.Bc.all fun x=>inI x 0 ((w.Ak.length:Int)-1))=a7;cases a1<;>cases a2<;>cases a3<;>cases a4<;>cases a5<;>cases a6<;>rfl
 rw[e];unfold qjJ;refine Ev.guardB ?_ fun m=>?_
 ·rw[show decide ((w.Ak.length:Int)<1) = !decide (1<=w.Ak.length) from qt5 (k:=1),show decide ((w.Ak.length:Int) > 8) = !decide (w.Ak.length<=8) from quO (k:=8)];simp only[bne,qdn];exact Ev.orBP fun _=>Ev.orBP fun _=>Ev.orBP fun _=>Ev.orBP fun _=>.done
 ·simp only[jf,beq_iff_eq] at m;have c:Ev (fun n=>qcU w n 0) (bif allN (fun j=>(inI (at0 w.Bp j) 0 500&&inI (at0 w.Bt j) 0 1000)&&treeB w j) w.Ak.length then .nxt (w.Ak.length:Int) else .ret false):=by
   refine qfp ?_ (fun j a X b=>Ev.succ ?_)
   ·exact Ev.succ (by simp only[qcU,qn (je _),cond_false];exact .done)
   ·simp only[qcU,ql a,cond_true,qaA a,qaA (show j<w.Bp.length by omega),qaA (show j<w.Bt.length by omega),jd,qcI,wS j,bne,qdn];refine Ev.chkT (Ev.orBP fun _=>.done) fun _=>?_;unfold treeB;by_cases l:j=0
    ·subst l;refine Ev.tt (by simp) (Ev.okP fun _=>Ev.okP1 fun _=>Ev.ff (by simp) b)
    ·have e1:decide (j=0)=false:=by simp;omega
     have g:((j:Int)==0)=false:=by simp;omega
     have i:decide ((j:Int) > 0)=true:=by simp;omega
     rw[e1,g,i,qe9 (show j<=9223372036854775807 by omega)];simp only[cond_false,cond_true];exact Ev.okP1 fun _=>b
  have f:Ev (fun n=>qfJ w n 0) (bif (w.Bc.all fun x=>inI x 0 ((w.Ak.length:Int)-1)) then .nxt (w.Bc.length:Int) else .ret false):=
   qmA (fun n=>by simp only[qfJ,qn (je _),cond_false]) (fun j a X b=>by
    simp only[qfJ,ql a,cond_true,qbC a,jd,qcI,qe9 (show w.Ak.length<=9223372036854775807 by omega),wS j,qdn];exact Ev.okP1 fun _=>b)
  refine Ev.bind c ?_;cases allN (fun j=>(inI (at0 w.Bp j) 0 500&&inI (at0 w.Bt j) 0 1000)&&treeB w j) w.Ak.length
  ·exact .done
  ·refine Ev.bind f ?_;cases (w.Bc.all fun x=>inI x 0 ((w.Ak.length:Int)-1))<;>exact .done
instance:Inhabited Tplace:=⟨⟨0,0,0,false⟩⟩
instance:Inhabited Tl05Place:=⟨⟨0,0,0,false⟩⟩
def toSp(p:Tplace):Tl05Place:=⟨p.instance_,p.pin,p.net,p.drives⟩
def plX(i:Nat)(x:qz)(j:Nat):List Tplace:=(List.range j).map fun(k:Nat)=>⟨(i:Int),(k:Int),at0 x.Ai k,decide (k+1=x.Ai.length)⟩
def plI(d:qh)(j:Nat):List Tplace:=(List.range j).flatMap fun(i:Nat)=>plX i (gt d.Ab i) (gt d.Ab i).Ai.length
def plP(d:qh)(j:Nat):List Tplace:=(List.range j).map fun(i:Nat)=>⟨-1,(i:Int),(gt d.Af i).Bz,(gt d.Af i).Bw==1⟩
def places(d:qh):List Tplace:=plI d d.Ab.length++plP d d.Af.length
theorem qrb{i:Nat}{x:qz}{j:Nat}:plX i x (j+1)=plX i x j++[⟨(i:Int),(j:Int),at0 x.Ai j,decide (j+1=x.Ai.length)⟩]:=by
 unfold plX;rw[List.range_succ,jJ];rfl
theorem qlq{d:qh}{j:Nat}:plI d (j+1)=plI d j++plX j (gt d.Ab j) (gt d.Ab j).Ai.length:=by
 unfold plI;rw[List.range_succ,List.flatMap_append];simp
theorem qqv{d:qh}{j:Nat}:plP d (j+1)=plP d j++[⟨-1,(j:Int),(gt d.Af j).Bz,(gt d.Af j).Bw==1⟩]:=by
 unfold plP;rw[List.range_succ,jJ];rfl
theorem qoc{i:Nat}{x:qz}{j:Nat}:(plX i x j).length=j:=by simp[plX]
theorem qog{d:qh}{j:Nat}:(plP d j).length=j:=by simp[plP]
structure smallD(d:qh):Prop where
 ni:d.Ab.length<=14
 nn:d.Ai.length<=30
 np:d.Af.length<=8
 nx:∀i,i<d.Ab.length->2<=(gt d.Ab i).Ai.length/\(gt d.Ab i).Ai.length<=5
theorem qY{l:qr}{d:qh}(h:designB l d=true):smallD d:=by
 unfold designB hasNamesB libB at h;simp only[jf,decide_eq_true_eq] at h;obtain⟨⟨⟨b,_⟩,⟨c,f,g⟩,_⟩,a,_⟩:=h;refine⟨c,f,g,fun i hi=>?_⟩;rw[qhM,qaI] at a b;have:=a i hi;unfold instB at this;simp only[jf,qbd,beq_iff_eq] at this;have k:=qfo (qgO (b (gt d.Ab i).Bn.toNat (by omega)));omega
theorem qmz{d:qh}(h:smallD d){j:Nat}(a:j<=d.Ab.length):(plI d j).length<=5*j:=by
 induction j with
 |zero=>exact je _
 |succ j ih=>
  rw[qlq,jg,qoc];have:=ih (by omega);have:=h.nx j (by omega);omega
theorem qaY{d:qh}(h:smallD d):(places d).length<=78:=by
 unfold places;rw[jg,qog];have:=qmz h (je _);have:=h.ni;have:=h.np;omega
theorem qlS{d:qh}(h:smallD d):Ev (fun n=>qcD n d) (places d):=by
 have l:=h.ni;have m:=h.np;have f:∀i,i<d.Ab.length->∀pre:List Tplace,pre.length<=100->Ev (fun n=>qbY (i:Int) (gt d.Ab i) n pre 0) (pre++plX i (gt d.Ab i) (gt d.Ab i).Ai.length,((gt d.Ab i).Ai.length:Int)):=by
  intro i hi pre p;have o:=h.nx i hi;have:=loopF (Lf:=qbY (i:Int) (gt d.Ab i)) (S:=fun j=>pre++plX i (gt d.Ab i) j) (len:=(gt d.Ab i).Ai.length) (fin:=(pre++plX i (gt d.Ab i) (gt d.Ab i).Ai.length,((gt d.Ab i).Ai.length:Int))) (fun n=>by
    simp only[qbY,qn (je _),cond_false])
   (fun j a X b=>by
    have k:(pre++plX i (gt d.Ab i) j).length+[(⟨(i:Int),(j:Int),at0 (gt d.Ab i).Ai j,decide (j+1=(gt d.Ab i).Ai.length)⟩:Tplace)].length<=2147483648:=by
     rw[jg,qoc];simp;omega
    simp only[qbY,ql a,cond_true,qaA a,jd,lastE a (show(gt d.Ab i).Ai.length<=1048576 by omega),qbP k,jt,<-qrb,wS j];exact b)
  simpa [plX] using this
 have c:Ev (fun n=>qbS d n ([]:List Tplace) 0) (plI d d.Ab.length,(d.Ab.length:Int)):=by
  refine loopF (Lf:=qbS d) (S:=fun j=>plI d j) (len:=d.Ab.length) (fun n=>?_) (fun j a X b=>?_)
  ·simp only[qbS,qn (je _),cond_false]
  ·simp only[qbS,ql a,cond_true,qD a,jd,wS j];refine Ev.bind (f j a _ (by have:=qmz h (Nat.le_of_lt a);omega)) ?_;rw[<-qlq];exact b
 have g:Ev (fun n=>qbV d n (plI d d.Ab.length) 0) (places d,(d.Af.length:Int)):=by
  have:=loopF (Lf:=qbV d) (S:=fun j=>plI d d.Ab.length++plP d j) (len:=d.Af.length) (fin:=(places d,(d.Af.length:Int))) (fun n=>by
    simp only[qbV,qn (je _),cond_false];rfl)
   (fun j a X b=>by
    have k:(plI d d.Ab.length++plP d j).length+[(⟨-1,(j:Int),(gt d.Af j).Bz,(gt d.Af j).Bw==1⟩:Tplace)].length<=2147483648:=by
     rw[jg,qog];have:=qmz h (je _);simp;omega
    simp only[qbV,ql a,cond_true,qD a,jd,qbP k,jt,<-qqv,wS j];exact b)
  simpa [plP] using this
 unfold qcD;exact Ev.bind c (Ev.bind g .done)
theorem qf1{d:qh}(h:smallD d):Ev (fun n=>qbK n d) ((places d).map toSp):=by
 have l:=h.ni;have m:=h.np;have f:∀i,i<d.Ab.length->∀pre:List Tplace,pre.length<=100->Ev (fun n=>qcZ (i:Int) (gt d.Ab i) n (pre.map toSp) 0) ((pre++plX i (gt d.Ab i) (gt d.Ab i).Ai.length).map toSp,((gt d.Ab i).Ai.length:Int)):=by
  intro i hi pre p;have o:=h.nx i hi;have:=loopF (Lf:=qcZ (i:Int) (gt d.Ab i)) (S:=fun j=>(pre++plX i (gt d.Ab i) j).map toSp) (len:=(gt d.Ab i).Ai.length) (fin:=((pre++plX i (gt d.Ab i) (gt d.Ab i).Ai.length).map toSp,((gt d.Ab i).Ai.length:Int))) (fun n=>by
    simp only[qcZ,qn (je _),cond_false])
   (fun j a X b=>by
    have k:((pre++plX i (gt d.Ab i) j).map toSp).length+[(⟨(i:Int),(j:Int),at0 (gt d.Ab i).Ai j,decide (j+1=(gt d.Ab i).Ai.length)⟩:Tl05Place)].length<=2147483648:=by
     rw[jp,jg,qoc];simp;omega
    simp only[qcZ,ql a,cond_true,qaA a,jd,lastE a (show(gt d.Ab i).Ai.length<=1048576 by omega),qbP k,wS j];rw[qrb,<-jt,jJ] at b;exact b)
  simpa [plX] using this
 have c:Ev (fun n=>qc0 d n ([]:List Tl05Place) 0) ((plI d d.Ab.length).map toSp,(d.Ab.length:Int)):=by
  refine loopF (Lf:=qc0 d) (S:=fun j=>(plI d j).map toSp) (len:=d.Ab.length) (fun n=>?_) (fun j a X b=>?_)
  ·simp only[qc0,qn (je _),cond_false]
  ·simp only[qc0,ql a,cond_true,qD a,jd,wS j];refine Ev.bind (f j a _ (by have:=qmz h (Nat.le_of_lt a);omega)) ?_;rw[<-qlq];exact b
 have g:Ev (fun n=>qc3 d n ((plI d d.Ab.length).map toSp) 0) ((places d).map toSp,(d.Af.length:Int)):=by
  have:=loopF (Lf:=qc3 d) (S:=fun j=>(plI d d.Ab.length++plP d j).map toSp) (len:=d.Af.length) (fin:=((places d).map toSp,(d.Af.length:Int))) (fun n=>by
    simp only[qc3,qn (je _),cond_false];rfl)
   (fun j a X b=>by
    have k:((plI d d.Ab.length++plP d j).map toSp).length+[(⟨-1,(j:Int),(gt d.Af j).Bz,(gt d.Af j).Bw==1⟩:Tl05Place)].length<=2147483648:=by
     rw[jp,jg,qog];have:=qmz h (je _);simp;omega
    simp only[qc3,ql a,cond_true,qD a,jd,qbP k,wS j];rw[qqv,<-jt,jJ] at b;exact b)
  simpa [plP] using this
 unfold qbK;exact Ev.bind c (Ev.bind g .done)
def snkQ(d:qh)(k:Int)(i:Nat):Bool:=((gt (places d) i).net==k)&&!(gt (places d) i).drives
def sinksL(d:qh)(k:Int)(j:Nat):List Int:=((List.range j).filter (snkQ d k)).map fun(i:Nat)=>(i:Int)
def snkN(d:qh)(k:Int):Nat:=cntP (snkQ d k) (places d).length
theorem qiF{d:qh}{k:Int}{j:Nat}:sinksL d k (j+1)=sinksL d k j++(bif snkQ d k j then[(j:Int)] else[]):=by
 unfold sinksL;rw[List.range_succ,List.filter_append,jJ]
 congr 1
 cases h:snkQ d k j<;>simp[h]
theorem qif{d:qh}{k:Int}{j:Nat}:(sinksL d k j).length=cntP (snkQ d k) j:=by
 induction j with
 |zero=>rfl
 |succ j ih=>
  rw[qiF,jg,ih];show _=cntP (snkQ d k) j+_
  congr 1
  cases snkQ d k j<;>rfl
theorem qmf{α β:Type}[Inhabited α][Inhabited β]{xs:List α}{g:α->β}{j:Nat}(h:j<xs.length):gt (xs.map g) j=g (gt xs j):=by
 rw[qdA (by simpa using h),qdA h];simp
theorem qjC{d:qh}{k:Int}(h:smallD d):Ev (fun n=>qfr n d k) (sinksL d k (places d).length):=by
 have l:=qaY h;have g:Ev (fun n=>qcM k ((places d).map toSp) n ([]:List Int) 0) (sinksL d k (places d).length,((places d).length:Int)):=by
  refine loopF (Lf:=qcM k ((places d).map toSp)) (S:=fun j=>sinksL d k j) (len:=(places d).length) (fun n=>?_) (fun j f X a=>?_)
  ·simp only[qcM,jp,qn (je _),cond_false]
  ·have c:j<((places d).map toSp).length:=by simpa using f
   have i:(sinksL d k j).length+[(j:Int)].length<=2147483648:=by
    rw[qif];have:cntP (snkQ d k) j<=j:=qf0;simp;omega
   simp only[qcM,ql c,cond_true,qD c,qmf f,jd,wS j];rw[show ∀p:Tplace,(toSp p).net=p.net from fun _=>rfl,show ∀p:Tplace,(toSp p).drives=p.drives from fun _=>rfl];refine Ev.bind (b:=snkQ d k j) (Ev.andP fun _=>.done) ?_;rw[qiF] at a;cases hq:snkQ d k j
   ·rw[hq] at a;simp only[cond_false,List.append_nil] at a⊢;exact a
   ·rw[hq] at a;simp only[cond_true,qbP i,jd] at a⊢;exact a
 unfold qfr;exact Ev.bind (qf1 h) (Ev.bind g .done)
theorem qkO{l:qr}{d:qh}(h:designB l d=true){i:Nat}(hi:i<(places d).length):0<=(gt (places d) i).net/\(gt (places d) i).net<d.Ai.length:=by
 unfold designB at h;simp only[jf] at h;obtain⟨_,f,g,_⟩:=h;rw[qhM,qaI] at f g;have a:gt (places d) i∈places d:=by rw[qdA hi];exact jo hi
 generalize gt (places d) i=p at a;unfold places at a;rcases List.mem_append.1 a with a|a
 ·unfold plI at a;obtain⟨i,hi,a⟩:=List.mem_flatMap.1 a;unfold plX at a;obtain⟨k,m,rfl⟩:=List.mem_map.1 a;have:=f i (List.mem_range.1 hi);unfold instB at this;simp only[jf] at this;have b:=this.2.2;rw[qgN (d:=0),qaI] at b;have c:=b k (List.mem_range.1 m);unfold netB at c;rw[qbd] at c;show 0<=at0 _ _/\at0 _ _<_;unfold at0;omega
 ·unfold plP at a;obtain⟨i,hi,rfl⟩:=List.mem_map.1 a;have:=g i (List.mem_range.1 hi);unfold portB netB at this;simp only[jf,qbd] at this;show 0<=(gt d.Af i).Bz/\(gt d.Af i).Bz<_;omega
def blockB(b:qe):Bool:=(designB b.Ah b.Aa&&((b.Ac.length:Int)==(b.Aa.Ai.length:Int)))&&allN (fun j=>wireB (gt b.Ac j) (snkN b.Aa (j:Int))) b.Ac.length
theorem qoS{b:qe}(h:qiw b):Ev (fun n=>qg0 n b) (blockB b):=by
 have r:=h.Ac.len;unfold qg0 blockB;refine Ev.guardB (Ev.or (qqK h.Ah h.Aa) fun _=>.done) fun l=>?_;rw[jf,beq_iff_eq] at l;obtain⟨o,y⟩:=l;have i:=qY o;have u:=qaY i;have v:=i.nn;rw[qlW (m:=b.Ac.length) (by omega)];simp only[jd];have f:Ev (fun n=>qdd (places b.Aa) n (vecC (fun _=>0) b.Ac.length) 0) (vecC (fun k=>snkN b.Aa (k:Int)) b.Ac.length,((places b.Aa).length:Int)):=by
  refine loopF (Lf:=qdd (places b.Aa)) (S:=fun j=>vecC (fun k=>cntP (snkQ b.Aa (k:Int)) j) b.Ac.length) (len:=(places b.Aa).length) (fun n=>?_) (fun j a X d=>?_)
  ·simp only[qdd,qn (je _),cond_false];rfl
  ·simp only[qdd,ql a,cond_true,qD a,jd,wS j];obtain⟨s,n1⟩:=qkO o a;cases h1:(gt (places b.Aa) j).drives
   ·have t:cntP (snkQ b.Aa (((gt (places b.Aa) j).net.toNat:Nat):Int)) j<=j:=qf0;obtain⟨e1,p⟩:=qj9 (c:=fun k=>cntP (snkQ b.Aa (k:Int)) j) (c':=fun k=>cntP (snkQ b.Aa (k:Int)) (j+1)) (x:=(gt (places b.Aa) j).net) (m:=b.Ac.length) s (by omega) (by show cntP _ _<_;omega) (fun k _=>by
     show cntP _ j+(bif snkQ b.Aa (k:Int) j then 1 else 0)=_;unfold snkQ;rw[h1,Bool.not_false,Bool.and_true])
    simp only[Bool.not_false,cond_true,jd,e1,p];exact d
   ·have:vecC (fun k=>cntP (snkQ b.Aa (k:Int)) (j+1)) b.Ac.length=vecC (fun k=>cntP (snkQ b.Aa (k:Int)) j) b.Ac.length:=by
     refine qjq (fun k _=>?_);show cntP _ j+(bif snkQ b.Aa (k:Int) j then 1 else 0)=_;unfold snkQ;rw[h1,jV,Bool.and_false];rfl
    rw[this] at d;exact d
 have g:Ev (fun n=>qe2 b (vecC (fun k=>snkN b.Aa (k:Int)) b.Ac.length) n 0) (bif allN (fun j=>wireB (gt b.Ac j) (snkN b.Aa (j:Int))) b.Ac.length then .nxt (b.Ac.length:Int) else .ret false):=by
  refine qfp ?_ (fun j a X d=>Ev.succ ?_)
  ·exact Ev.succ (by simp only[qe2,qn (je _),cond_false];exact .done)
  ·simp only[qe2,ql a,cond_true,qD a,qjh a,jd,wS j];exact Ev.chk1 (qsh (qlr h.Ac a)) fun _=>d
 refine Ev.bind (qlS i) (Ev.bind f (Ev.bind g ?_));cases allN (fun j=>wireB (gt b.Ac j) (snkN b.Aa (j:Int))) b.Ac.length<;>exact .done
theorem qjI{b:qe}(h:qiw b):Ev (fun n=>qfd n b) (blockB b):=by
 have i:=h.Ac.len;unfold qfd blockB;refine Ev.guardB (Ev.or (qqg h.Ah h.Aa) fun _=>.done) fun c=>?_;rw[jf] at c;have g:=qY c.1;have d:Ev (fun n=>qeZ b n 0) (bif allN (fun j=>wireB (gt b.Ac j) (snkN b.Aa (j:Int))) b.Ac.length then .nxt (b.Ac.length:Int) else .ret false):=by
  refine qfp ?_ (fun j a X f=>Ev.succ ?_)
  ·exact Ev.succ (by simp only[qeZ,qn (je _),cond_false];exact .done)
  ·simp only[qeZ,ql a,cond_true,qD a,jd,wS j];refine Ev.bind (qjC g) ?_;rw[qif];exact Ev.chk1 (qrI (qlr h.Ac a)) fun _=>f
 refine Ev.bind d ?_;cases allN (fun j=>wireB (gt b.Ac j) (snkN b.Aa (j:Int))) b.Ac.length<;>exact .done

def off(d:qh)(i:Nat):Nat:=(plI d i).length
def place1(d:qh)(i k:Nat):Tplace:=⟨(i:Int),(k:Int),at0 (gt d.Ab i).Ai k,decide (k+1=(gt d.Ab i).Ai.length)⟩
def place2(d:qh)(i:Nat):Tplace:=⟨-1,(i:Int),(gt d.Af i).Bz,(gt d.Af i).Bw==1⟩
theorem qix{d:qh}{i:Nat}:off d (i+1)=off d i+(gt d.Ab i).Ai.length:=by
 unfold off;rw[qlq,jg,qoc]
theorem qpR{d:qh}{i j:Nat}(h:i<=j):off d i<=off d j:=by
 induction j with
 |zero=>
  obtain rfl:i=0:=by omega
  exact je _
 |succ j ih=>
  rcases Nat.lt_or_eq_of_le h with h|rfl
  ·rw[qix];have:=ih (by omega);omega
  ·exact je _
theorem qfR{d:qh}:(places d).length=off d d.Ab.length+d.Af.length:=by
 unfold places off;rw[jg,qog]
theorem qvD{d:qh}{n i k:Nat}(hi:i<n)(c:k<(gt d.Ab i).Ai.length):off d i+k<off d n/\gt (plI d n) (off d i+k)=place1 d i k:=by
 induction n with
 |zero=>omega
 |succ n ih=>
  rw[qlq,qkl];rcases Nat.lt_succ_iff_lt_or_eq.1 hi with h|rfl
  ·obtain⟨a,b⟩:=ih h;refine⟨by rw[qix];omega,?_⟩;rw[if_pos (show off d i+k<(plI d n).length from a),b]
  ·refine⟨by rw[qix];omega,?_⟩;rw[if_neg (by unfold off;omega),show off d i+k-(plI d i).length=k by unfold off;omega];exact qow c
theorem qhF{d:qh}{i k:Nat}(hi:i<d.Ab.length)(c:k<(gt d.Ab i).Ai.length):off d i+k<(places d).length/\gt (places d) (off d i+k)=place1 d i k:=by
 obtain⟨a,b⟩:=qvD hi c;refine⟨by rw[qfR];omega,?_⟩;unfold places;rw[qkl,if_pos (show off d i+k<(plI d d.Ab.length).length from a),b]
theorem qpB{d:qh}{i:Nat}(hi:i<d.Af.length):off d d.Ab.length+i<(places d).length/\gt (places d) (off d d.Ab.length+i)=place2 d i:=by
 refine⟨by rw[qfR];omega,?_⟩;unfold places;rw[qkl,if_neg (by unfold off;omega),show off d d.Ab.length+i-(plI d d.Ab.length).length=i by unfold off;omega];exact qow hi
theorem qr9{d:qh}{n j:Nat}(a:j<off d n):∃i k,i<n/\k<(gt d.Ab i).Ai.length/\j=off d i+k:=by
 induction n with
 |zero=>exact absurd a (Nat.not_lt_zero _)
 |succ n ih=>
  by_cases h:j<off d n
  ·obtain⟨i,k,f,b,c⟩:=ih h;exact⟨i,k,by omega,b,c⟩
  ·rw[qix] at a;exact⟨n,j-off d n,by omega,by omega,by omega⟩
theorem qjP{d:qh}{j:Nat}(c:j<(places d).length) :
  (∃i k,i<d.Ab.length/\k<(gt d.Ab i).Ai.length/\j=off d i+k/\gt (places d) j=place1 d i k) \/
  (∃i,i<d.Af.length/\j=off d d.Ab.length+i/\gt (places d) j=place2 d i):=by
 rw[qfR] at c;by_cases h:j<off d d.Ab.length
 ·obtain⟨i,k,a,b,rfl⟩:=qr9 h;exact .inl ⟨i,k,a,b,rfl,(qhF a b).2⟩
 ·refine .inr ⟨j-off d d.Ab.length,by omega,by omega,?_⟩;have:=(qpB (d:=d) (i:=j-off d d.Ab.length) (by omega)).2;rwa [show off d d.Ab.length+(j-off d d.Ab.length)=j by omega] at this
def drvQ(d:qh)(k:Int)(j:Nat):Bool:=((gt (places d) j).net==k)&&(gt (places d) j).drives
theorem qqZ{q:Nat->Bool}{m n:Nat}:cntP q (m+n)=cntP q m+cntP (fun j=>q (m+j)) n:=by
 induction n with
 |zero=>rfl
 |succ n ih=>
  show cntP q (m+n)+(bif q (m+n) then 1 else 0)=cntP q m+(cntP (fun j=>q (m+j)) n+(bif q (m+n) then 1 else 0));rw[ih];omega
theorem qsk{q:Nat->Bool}{n:Nat}{b:Bool}(h:1<=n)(a:∀j,j+1<n->q j=false)(c:q (n-1)=b):cntP q n=bif b then 1 else 0:=by
 obtain⟨m,rfl⟩:∃m,n=m+1:=⟨n-1,by omega⟩;show cntP q m+(bif q m then 1 else 0)=_;rw[qlJ.2 (fun j d=>a j (by omega)),show m=m+1-1 by omega,c,Jg]
theorem qre{d:qh}{k:Nat}(b:smallD d):cntP (drvQ d (k:Int)) (places d).length=drvI d k d.Ab.length+drvP d k d.Af.length:=by
 rw[qfR,qqZ]
 congr 1
 ·have:∀n,n<=d.Ab.length->cntP (drvQ d (k:Int)) (off d n)=drvI d k n:=by
   intro n
   induction n with
   |zero=>intro _;rfl
   |succ n ih=>
    intro f;rw[qix,qqZ,ih (by omega),qm5]
    congr 1
    have c:=(b.nx n (by omega)).1;refine qsk (by omega) (fun j a=>?_) ?_
    ·show drvQ d _ (off d n+j)=false;unfold drvQ;rw[(qhF (by omega) (by omega)).2];unfold place1;simp;omega
    ·show drvQ d _ (off d n+_)=_;unfold drvQ;rw[(qhF (by omega) (by omega)).2];unfold place1 lastN;simp;omega
  exact this _ (je _)
 ·refine qor (fun j a=>?_);show drvQ d _ (off d _+j)=_;unfold drvQ;rw[(qpB a).2];unfold place2;exact Bool.and_comm _ _
theorem qr3{l:qr}{d:qh}(h:designB l d=true){k:Nat}(a:k<d.Ai.length):cntP (drvQ d (k:Int)) (places d).length=1:=by
 rw[qre (qY h)];unfold designB drvB at h;simp only[jf] at h;have:=qaI.1 h.2.2.2 k a;rw[beq_iff_eq] at this;omega
theorem qqG{l:qr}{d:qh}(h:designB l d=true){i j:Nat}(hi:i<(places d).length)(f:j<(places d).length)(c:(gt (places d) i).net=(gt (places d) j).net)(a:(gt (places d) i).drives=true)(b:(gt (places d) j).drives=true):i=j:=by
 obtain⟨g,n1⟩:=qkO h hi;have e:=qgT g;have:=qr3 h (k:=(gt (places d) i).net.toNat) (by omega);refine qqQ (Nat.le_of_eq this) hi f ?_ ?_
 ·unfold drvQ;rw[<-e,a];simp
 ·unfold drvQ;rw[<-e,b,c];simp
theorem qvC{l:qr}{d:qh}(h:designB l d=true){k:Int}(c:0<=k)(g:k<d.Ai.length):∃j,j<(places d).length/\(gt (places d) j).net=k/\(gt (places d) j).drives=true:=by
 have e:=qgT c;have:=qr3 h (k:=k.toNat) (by omega);have b:decide (0<cntP (drvQ d ((k.toNat:Nat):Int)) (places d).length)=true:=by rw[this];rfl
 rw[qqB,jC,qkC] at b;obtain⟨j,f,a⟩:=b;rw[Bool.not_eq_false',<-e] at a;unfold drvQ at a;simp only[jf,beq_iff_eq] at a;exact⟨j,f,a.1,a.2⟩
def cellAt(b:qe)(i:Int):qA:=gt b.Ah.Aj (gt b.Aa.Ab i.toNat).Bn.toNat
theorem qgo{l:qr}{d:qh}(h:designB l d=true){i:Nat}(hi:i<d.Ab.length) :
  (0<=(gt d.Ab i).Bn/\(gt d.Ab i).Bn<l.Aj.length)/\(gt d.Ab i).Ai.length=(gt l.Aj (gt d.Ab i).Bn.toNat).As.length/\cellB (gt l.Aj (gt d.Ab i).Bn.toNat)=true:=by
 unfold designB libB at h;simp only[jf] at h;obtain⟨⟨⟨b,_⟩,_⟩,a,_⟩:=h;rw[qhM,qaI] at a b;have:=a i hi;unfold instB at this;simp only[jf,qbd,beq_iff_eq] at this;exact⟨⟨this.1.1,by omega⟩,by omega,b _ (by omega)⟩
theorem qhE{c:qA}(h:cellB c=true){j:Nat}(f:j<c.Ap.length):(1<=(gt c.Ap j).Ar/\(gt c.Ap j).Ar<=5)/\(0<=(gt c.Ap j).Bb/\(gt c.Ap j).Bb<(c.As.length:Int)-1)/\(0<=(gt c.Ap j).To/\(gt c.Ap j).To<=(c.As.length:Int)-1)/\arcS c.As (gt c.Ap j)=true:=by
 unfold cellB at h;simp only[jf] at h;obtain⟨_,i,⟨d,_⟩,_,_,g⟩:=h;have:=qaI.1 d j f;rw[jf,qsV i (qpx g)] at this;have b:=this.1;refine⟨qpF b,?_⟩;have a:=b;unfold arcS at a;simp only[jf,qbd] at a;refine⟨⟨a.1.1.1,by omega⟩,a.1.2,b⟩
theorem qie{c:qA}(h:cellB c=true):c.Ap.length<=8:=by
 unfold cellB at h;simp only[jf,decide_eq_true_eq] at h;exact h.2.2.1.2
theorem qao{b:qe}(h:blockB b=true):designB b.Ah b.Aa=true:=by
 unfold blockB at h;simp only[jf] at h;exact h.1.1

theorem qsb{d:qh}{k:Int}{n i:Nat}(hi:i<(sinksL d k n).length):∃y:Nat,y<n/\idx (sinksL d k n) (i:Int)=V (y:Int)/\snkQ d k y=true:=by
 rw[qbC hi];have a:(sinksL d k n)[i]∈sinksL d k n:=jo hi;generalize (sinksL d k n)[i]=z at a;unfold sinksL at a;obtain⟨y,f,rfl⟩:=List.mem_map.1 a;obtain⟨b,c⟩:=List.mem_filter.1 f;exact⟨y,List.mem_range.1 b,rfl,c⟩
theorem qpa{d:qh}{k:Int}(h:smallD d):Ev (fun n=>qgv n d k) (sinksL d k (places d).length):=by
 have g:=qaY h;have c:Ev (fun n=>qa8 k (places d) n ([]:List Int) 0) (sinksL d k (places d).length,((places d).length:Int)):=by
  refine loopF (Lf:=qa8 k (places d)) (S:=fun j=>sinksL d k j) (len:=(places d).length) (fun n=>?_) (fun j b X a=>?_)
  ·simp only[qa8,qn (je _),cond_false]
  ·have f:(sinksL d k j).length+[(j:Int)].length<=2147483648:=by
    rw[qif];have:cntP (snkQ d k) j<=j:=qf0;simp;omega
   simp only[qa8,ql b,cond_true,qD b,jd,wS j];rw[qiF] at a;unfold snkQ at a;cases h1:((gt (places d) j).net==k)
   ·rw[h1] at a;simp only[Bool.false_and,cond_false,List.append_nil] at a⊢;exact a
   ·cases h2:(gt (places d) j).drives
    ·rw[h1,h2] at a;simp only[Bool.not_false,Bool.and_self,cond_true,qbP f,jd] at a⊢;exact a
    ·rw[h1,h2] at a;simp only[jV,Bool.and_false,cond_false,List.append_nil,cond_true] at a⊢;exact a
 unfold qgv;exact Ev.bind (qlS h) (Ev.bind c .done)
structure wireOk(b:qe)(i:Nat):Prop where
 lo:1<=(gt b.Ac i).Ak.length
 hi:(gt b.Ac i).Ak.length<=8
 res:(gt b.Ac i).Bt.length=(gt b.Ac i).Ak.length
 cap:(gt b.Ac i).Bp.length=(gt b.Ac i).Ak.length
 par:∀j,0<j->j<(gt b.Ac i).Ak.length->0<=at0 (gt b.Ac i).Ak j/\at0 (gt b.Ac i).Ak j<j
 snk:(gt b.Ac i).Bc.length=(sinksL b.Aa (i:Int) (places b.Aa).length).length
 sin:∀j,j<(gt b.Ac i).Bc.length->0<=at0 (gt b.Ac i).Bc j/\at0 (gt b.Ac i).Bc j<(gt b.Ac i).Ak.length
theorem qbE{b:qe}(h:blockB b=true){i:Nat}(hi:i<b.Ac.length):wireOk b i:=by
 unfold blockB at h;rw[jf,qaI] at h;have:=h.2 i hi;unfold wireB lenB at this;simp only[jf,decide_eq_true_eq,beq_iff_eq] at this;obtain⟨⟨f,g⟩,n,o,k,_,_,l,c⟩:=this;refine⟨f,g,by omega,by omega,fun j m a=>?_,?_,fun j a=>?_⟩
 ·have:=qaI.1 k j a;unfold treeB at this;rw[show decide (j=0)=false by simp;omega] at this;simp only[cond_false,qbd] at this;omega
 ·rw[qif];unfold snkN at l;omega
 ·rw[qgN (d:=0),qaI] at c;have:=c j a;rw[qbd] at this;unfold at0;omega
theorem qkK{b:qe}(h:blockB b=true):b.Ac.length=b.Aa.Ai.length:=by
 unfold blockB at h;simp only[jf,beq_iff_eq] at h;omega

instance:Inhabited qu:=⟨⟨0,0,0,0⟩⟩
instance:Inhabited qab:=⟨⟨0,0⟩⟩
theorem qko{α:Type}{m:Nat}{z:α}(h:m<=2147483648):mkS (m:Int) z=V (List.replicate m z):=by
 unfold mkS big;rw[if_pos ⟨by omega,by omega⟩,ju]
theorem qpm{α:Type}[Inhabited α]{xs:List α}{a k:Nat}{y:α}(h:k≠a):gt (xs.set a y) k=gt xs k:=by
 unfold gt;rw[jy,List.getElem?_set_ne (by omega),<-jy]
theorem qnO{α:Type}[Inhabited α]{xs:List α}{a:Nat}{y:α}(h:a<xs.length):gt (xs.set a y) a=y:=by
 rw[qdA (by rw[List.length_set];exact h),List.getElem_set_self]

def CodeOk(code:List (IntK .u8)):Prop:=code.length<=1048576/\∀x,x∈code->rng8 x
structure SrcI(code:List (IntK .u8))(a s:Int):Prop where
 a0:0<=a
 a1:a<=(code.length:Int)
 s0:0<=s
 s1:s<=2147483646
theorem tm31{x:Int}(h:0<=x):0<=x.tmod 2147483647/\x.tmod 2147483647<=2147483646:=by
 have a:=Int.tmod_nonneg 2147483647 h;have b:=Int.tmod_lt_of_pos x (show(0:Int)<2147483647 by decide);omega
theorem qmW{x k:Int}(a:0<k):remS x k=V (x.tmod k):=by unfold remS;rw[if_neg (by omega)]
theorem qbh(x:Int):okI (W64 x):=by
 unfold okI W64;rw[Go.IntWalk.i64_left];unfold Go.RowKit.wrap64;omega
theorem qaG{x:Int}(a:-4611686018427387904<=x)(b:x<=4611686018427387904):okI x:=by unfold okI;omega
theorem qrL{code:List (IntK .u8)}(g:CodeOk code):∃s,Ev (fun n=>qkn n code) (V ⟨code,0,s⟩)/\SrcI code 0 s:=by
 have c:∀k j i,j+k=code.length->0<=i->i<=2147483646->EvQ (fun n=>qeX code n i (j:Int)) (fun o=>0<=o.1/\o.1<=2147483646):=by
  intro k
  induction k with
  |zero=>
   intro j i p f b;refine EvQ.succ ?_;simp only[qeX,qn (show code.length<=j by omega),cond_false,jd];exact EvQ.done ⟨f,b⟩
  |succ k ih=>
   intro j i p f b;have a:j<code.length:=by omega
   have t:=g.1;have r:=g.2 _ (jo a);unfold rng8 at r;refine EvQ.succ ?_;simp only[qeX,ql a,cond_true,jd,qbC a,wS j];refine EvQ.bif (fun _=>?_) (fun _=>EvQ.done ⟨f,b⟩);have e1:W64 (i*31)=i*31:=qT (by omega) (by omega);have h:W64 code[j].val=code[j].val:=qT (by omega) (by omega);have l:W64 (i*31+code[j].val)=i*31+code[j].val:=qT (by omega) (by omega);rw[e1,h,l];have d:=tm31 (show 0<=i*31+code[j].val by omega);exact ih (j+1) _ (by omega) d.1 d.2
 obtain⟨⟨s,j⟩,b,d,m⟩:=c code.length 0 12345 (by omega) (by decide) (by decide);exact⟨s,Ev.bind b .done,⟨jT _,by omega,d,m⟩⟩
theorem qaJ{code:List (IntK .u8)}{a s:Int}(k:Int)(l:CodeOk code)(h:SrcI code a s) :
  EvQ (fun n=>qv n ⟨code,a,s⟩ k) (fun o=>((0<=o.1/\(1<=k->o.1<k))/\(k<=1->o.1=0))/\SrcI code o.2.1 o.2.2):=by
 obtain⟨a0,a1,s0,s1⟩:=h;have z:=l.1;unfold qv;refine EvQ.bif (fun g=>EvQ.done ⟨⟨⟨jT _,fun h=>by omega⟩,fun _=>rfl⟩,⟨a0,a1,s0,s1⟩⟩) (fun g=>?_);have g:1<k:=by have:=of_decide_eq_false g;omega
 refine EvQ.bif (fun i=>?_) (fun _=>?_)
 ·have i:a<(code.length:Int):=of_decide_eq_true i;obtain⟨j,rfl⟩:∃j:Nat,a=(j:Int):=⟨a.toNat,by omega⟩;have c:j<code.length:=by omega
  have m:=l.2 _ (jo c);unfold rng8 at m;have p:W64 code[j].val=code[j].val:=qT (by omega) (by omega);have t:W64 ((j:Int)+1)=((j+1:Nat):Int):=qha (by omega);refine EvQ.bindN (qbC c) ?_;rw[p,t];refine EvQ.bif (fun u=>?_) (fun u=>?_)
  ·refine EvQ.bindN (qmW (by omega)) (EvQ.done ⟨⟨⟨Int.tmod_nonneg _ m.1,fun _=>Int.tmod_lt_of_pos _ (by omega)⟩,fun h=>by omega⟩,⟨by show(0:Int)<=((j+1:Nat):Int);omega,by show((j+1:Nat):Int)<=_;omega,s0,s1⟩⟩)
  ·have d:W64 (s*48271)=s*48271:=qT (by omega) (by omega);have f:W64 (s*48271+code[j].val)=s*48271+code[j].val:=qT (by omega) (by omega);have r:W64 (s*48271+code[j].val+1)=s*48271+code[j].val+1:=qT (by omega) (by omega);rw[d,f,r];have b:=tm31 (show 0<=s*48271+code[j].val+1 by omega);exact EvQ.bindN (qmW (by omega)) (EvQ.done ⟨⟨⟨Int.tmod_nonneg _ b.1,fun _=>Int.tmod_lt_of_pos _ (by omega)⟩,fun h=>by omega⟩,⟨by show(0:Int)<=((j+1:Nat):Int);omega,by show((j+1:Nat):Int)<=_;omega,b.1,b.2⟩⟩)
 ·have d:W64 (s*48271)=s*48271:=qT (by omega) (by omega);have f:W64 (s*48271+11)=s*48271+11:=qT (by omega) (by omega);rw[d,f];have b:=tm31 (show 0<=s*48271+11 by omega);have v:0<=((s*48271+11).tmod 2147483647).tdiv 7:=Int.tdiv_nonneg b.1 (by decide);have y:((s*48271+11).tmod 2147483647).tdiv 7<=2147483646:=by
   rw[jB b.1];omega
  rw[qT (x:=((s*48271+11).tmod 2147483647).tdiv 7) (by omega) (by omega)];exact EvQ.bindN (qmW (by omega)) (EvQ.done ⟨⟨⟨Int.tmod_nonneg _ v,fun _=>Int.tmod_lt_of_pos _ (by omega)⟩,fun h=>by omega⟩,⟨a0,a1,b.1,b.2⟩⟩)
theorem qcg{α:Type}{ok:α->Prop}{xs:List α}{y:α}(h:∀x,x∈xs->ok x)(b:ok y):∀x,x∈xs++[y]->ok x:=by
 intro x a;rcases List.mem_append.1 a with a|a
 ·exact h x a
 ·obtain rfl:=List.mem_singleton.1 a;exact b
theorem qdD{α:Type}{xs:List α}{y:α}(h:xs.length<=1048576):appS xs [y]=V (xs++[y]):=qbP (by simp;omega)
section
variable{code:List (IntK .u8)}{a s:Int}
theorem qtW{step:Int}(A:1<=step)(N:step<=1000)(i:CodeOk code)(h:SrcI code a s) :
  EvQ (fun n=>qfC n ⟨code,a,s⟩ step) (fun o=>(1<=o.1.length/\o.1.length<=3/\∀x,x∈o.1->okI x)/\SrcI code o.2.1 o.2.2):=by
 have d:∀(r:Nat) (x:List Int) (f g c:Int),SrcI code f g->x.length+r<=3->(∀y,y∈x->okI y)->okI c ->
   EvQ (fun n=>qc5 ⟨code,a,s⟩ step n x f g c (r:Int)) (fun o=>(o.1.length=x.length+r/\∀y,y∈o.1->okI y)/\SrcI code o.2.1 o.2.2.1):=by
  intro r
  induction r with
  |zero=>
   intro x f g c b B p hi;refine EvQ.succ ?_;simp only[qc5];exact EvQ.ff Z (EvQ.done ⟨⟨rfl,p⟩,b⟩)
  |succ r ih=>
   intro x f g c b B p hi;refine EvQ.succ ?_;simp only[qc5];refine EvQ.tt (by simp) (EvQ.bindN (qdD (by omega)) (EvQ.bind (qaJ step i b) ?_));rintro⟨H,t,u⟩ ⟨_,l⟩;have e:W64 (((r+1:Nat):Int)-1)=(r:Int):=by rw[qT (by omega) (by omega)];omega
   dsimp only;rw[e];exact(ih (x++[c]) t u _ l (by rw[jg,ji];omega) (qcg p hi) (qbh _)).mono (fun o k=>⟨⟨by rw[k.1.1,jg,ji];omega,k.1.2⟩,k.2⟩)
 unfold qfC;refine EvQ.bind (qaJ step i h) ?_;rintro⟨D,O,P⟩ ⟨⟨⟨K,p1⟩,_⟩,b⟩;refine EvQ.bind (qaJ 3 i b) ?_;rintro⟨v,I,J⟩ ⟨⟨⟨L,z⟩,_⟩,b⟩;dsimp only at K p1 L z b⊢;have T:=z (by decide);have S:=p1 A;obtain⟨m,C⟩:∃m:Nat,1+v=((m+1:Nat):Int):=⟨v.toNat,by omega⟩;rw[wO (1+v),C];refine EvQ.bind (d (m+1) [] I J D b (by simp;omega) (fun _ h=>by cases h) (qaG (by omega) (by omega))) ?_;rintro⟨W,Q,R,c,F⟩ ⟨⟨r1,M⟩,b⟩;exact EvQ.done ⟨⟨by simp only at r1;simp at r1;dsimp only;omega,by simp only at r1;simp at r1;dsimp only;omega,M⟩,b⟩
theorem qtq{c:Prop}[Decidable c]{x y:Int}(a:okI x)(b:okI y):okI (if c then x else y):=by split<;>assumption
theorem qrX{base:Int}(k:CodeOk code)(h:SrcI code a s) :
  EvQ (fun n=>qh8 n ⟨code,a,s⟩ base) (fun o=>qh2 o.1/\SrcI code o.2.1 o.2.2):=by
 unfold qh8;refine EvQ.bind (qtW (by decide) (by decide) k h) ?_;rintro⟨r1,i1,i2⟩ ⟨⟨T,l2,r⟩,c⟩;refine EvQ.bind (qtW (by decide) (by decide) k c) ?_;rintro⟨f,Q,S⟩ ⟨⟨W,t,u⟩,c⟩;dsimp only at T l2 r W t u c⊢;have e:r1.length*f.length<=3*3:=Nat.mul_le_mul l2 t;have l:∀(d j:Nat) (x:List Int) (m p:Int),SrcI code m p->j+d=r1.length*f.length->x.length=j->(∀y,y∈x->okI y) ->
   EvQ (fun n=>qd5 ⟨code,a,s⟩ base r1 f n x m p (j:Int)) (fun o=>(o.1.length<=9/\∀y,y∈o.1->okI y)/\SrcI code o.2.1 o.2.2.1):=by
  intro d
  induction d with
  |zero=>
   intro j x m p c B D g;refine EvQ.succ ?_;simp only[qd5,qof (show r1.length<=1048576 by omega) (show f.length<=1048576 by omega)];have z:x.length<=9:=by omega
   exact EvQ.ff (qn (by omega)) (EvQ.done ⟨⟨z,g⟩,c⟩)
  |succ d ih=>
   intro j x m p c B D g;refine EvQ.succ ?_;simp only[qd5,qof (show r1.length<=1048576 by omega) (show f.length<=1048576 by omega)];refine EvQ.tt (ql (by omega)) (EvQ.bind (qaJ 10 k c) ?_);rintro⟨i8,i9,F⟩ ⟨⟨⟨X,Y⟩,_⟩,c⟩;dsimp only at X Y c⊢;refine EvQ.bindN (b:=((j % f.length:Nat):Int)) (by rw[qmW (by omega),Int.ofNat_tmod]) ?_;refine EvQ.bind (R:=fun o:Int×Int×Int=>SrcI code o.1 o.2.1/\okI o.2.2) ?_ ?_
   ·refine EvQ.bif (fun i=>?_) (fun _=>EvQ.done ⟨c,qbh _⟩);have C:1<=j:=by
     rcases Nat.eq_zero_or_pos j with rfl|h2
     ·simp at i
     ·exact h2
    have e1:W64 ((j:Int)-1)=((j-1:Nat):Int):=by rw[qT (by omega) (by omega)];omega
    rw[e1];refine EvQ.bindN (qbC (show j-1<x.length by omega)) (EvQ.bind (qaJ 20 k c) ?_);rintro⟨N,O,P⟩ ⟨_,c⟩;exact EvQ.done ⟨c,qtq (qbh _) (qbh _)⟩
   ·rintro⟨H,I,J⟩ ⟨c,hi⟩;dsimp only at c hi⊢;rw[wS j];refine EvQ.bif (fun i=>?_) (fun _=>?_)
    ·have A:f.length<=j:=by have:=of_decide_eq_true i;omega
     have e1:W64 ((j:Int)-(f.length:Int))=((j-f.length:Nat):Int):=by rw[qT (by omega) (by omega)];omega
     rw[e1];refine EvQ.bindN (qbC (show j-f.length<x.length by omega)) (EvQ.bind (qaJ 20 k c) ?_);rintro⟨K,L,M⟩ ⟨_,c⟩;refine EvQ.bindN (qdD (by omega)) ?_;exact ih (j+1) _ _ _ c (by omega) (by rw[jg,ji];omega) (qcg g (qtq (qbh _) hi))
    ·refine EvQ.bindN (qdD (by omega)) ?_;exact ih (j+1) _ _ _ c (by omega) (by rw[jg,ji];omega) (qcg g hi)
 refine EvQ.bind (l (r1.length*f.length) 0 [] Q S c (by omega) Z (fun _ h=>by cases h)) ?_;rintro⟨x1,i5,i6,i7⟩ ⟨⟨n1,v⟩,c⟩;dsimp only at n1 v c;exact EvQ.done ⟨⟨⟨by dsimp only;omega,r⟩,⟨by dsimp only;omega,u⟩,⟨by dsimp only;omega,v⟩⟩,c⟩
theorem qo1{base:Int}(d:CodeOk code)(h:SrcI code a s) :
  EvQ (fun n=>qdt n ⟨code,a,s⟩ base) (fun o=>okL qh2 o.1/\SrcI code o.2.1 o.2.2):=by
 unfold qdt;refine EvQ.bind (qrX d h) ?_;rintro⟨r1,i,k⟩ ⟨f,b⟩;refine EvQ.bind (qrX d b) ?_;rintro⟨p,l,m⟩ ⟨g,b⟩;refine EvQ.done ⟨⟨by simp,fun x c=>?_⟩,b⟩;rcases List.mem_cons.1 c with rfl|c
 ·exact f
 ·obtain rfl:=List.mem_singleton.1 c;exact g
theorem qqS{kind f t sense:Int}(i:okI kind)(g:okI f)(k:okI t)(d:okI sense)(c:CodeOk code)(h:SrcI code a s) :
  EvQ (fun n=>qdf n ⟨code,a,s⟩ kind f t sense) (fun o=>qkN o.1/\SrcI code o.2.1 o.2.2):=by
 unfold qdf;refine EvQ.bif (fun _=>?_) (fun _=>?_)
 ·refine EvQ.bind (qaJ 10 c h) ?_;rintro⟨y,z,A⟩ ⟨_,b⟩;refine EvQ.bind (qo1 c b) ?_;rintro⟨r1,B,C⟩ ⟨l,b⟩;exact EvQ.done ⟨⟨i,g,k,qaG (x:=0) (by decide) (by decide),l,⟨Jh _,fun _ h=>by cases h⟩⟩,b⟩
 ·refine EvQ.bind (qaJ 20 c h) ?_;rintro⟨D,F,H⟩ ⟨_,b⟩;refine EvQ.bind (qo1 c b) ?_;rintro⟨J,I,r⟩ ⟨m,b⟩;refine EvQ.bind (qo1 c b) ?_;rintro⟨K,u,v⟩ ⟨p,b⟩;exact EvQ.done ⟨⟨i,g,k,d,m,p⟩,b⟩
end

section
variable{code:List (IntK .u8)}{a s:Int}
theorem qum{q:Nat}(h:q<=8):W64 (2*(q:Int))=((q*2:Nat):Int):=by rw[qT (by omega) (by omega)];omega
theorem Ev.add{α:Type}{f:Nat->Option α}{r:α}(k:Nat)(h:∀m,f (m+k)=V r):Ev f r:=
 ⟨k,fun n a=>by obtain⟨m,rfl⟩:∃m,n=m+k:=⟨n-k,by omega⟩;exact h m⟩
def SenseOk(k:Nat)(a:List Int):Prop:=∀(b:ByteArray) (ps:List qaz) (i j:Int) (p:Nat),p<k->EvQ (fun n=>qjW n ⟨b,1,ps,[],a,i,j⟩ (p:Int)) okI
theorem qoQ{k:Nat}{J:ByteArray}{c:List Int}(Q:k<=3)(hl:c.length=2 ^ k)(D:SenseOk k c)(B:okS J)(F:∀x,x∈c->okI x)(z:CodeOk code)(h:SrcI code a s) :
  EvQ (fun n=>qfe n ⟨code,a,s⟩ J c) (fun o=>qlX o.1/\SrcI code o.2.1 o.2.2):=by
 have R:(2:Nat) ^ k<=8:=by
  have:(2:Nat) ^ k<=2 ^ 3:=Nat.pow_le_pow_right (by decide) Q;simpa using this
 have v:∀(d j:Nat) (x:List qaz) (i l:Int),SrcI code i l->j+d=k->x.length=j->(∀y,y∈x->qkA y) ->
   EvQ (fun n=>qeW ⟨code,a,s⟩ c n x i l ((2 ^ j:Nat):Int)) (fun o=>(o.1.length=k/\∀y,y∈o.1->qkA y)/\SrcI code o.2.1 o.2.2.1):=by
  intro d
  induction d with
  |zero=>
   intro j x i l f A u g;refine EvQ.succ ?_;simp only[qeW];have:j=k:=by omega
   subst this;exact EvQ.ff (qn (by omega)) (EvQ.done ⟨⟨u,g⟩,f⟩)
  |succ d ih=>
   intro j x i l f A u g;refine EvQ.succ ?_;simp only[qeW];have S:(2:Nat) ^ j<2 ^ k:=Nat.pow_lt_pow_right (by decide) (by omega);refine EvQ.tt (ql (by omega)) ?_;have t:j<4:=by omega
   refine EvQ.bindN (b:=([(⟨#[97]⟩:ByteArray),(⟨#[98]⟩:ByteArray),(⟨#[99]⟩:ByteArray),(⟨#[100]⟩:ByteArray)]:List ByteArray)[j]'(by simpa using t)) (by rw[u];exact qbC (by simpa using t)) (EvQ.bind (qaJ 9 z f) ?_);rintro⟨T,W,X⟩ ⟨_,f⟩;refine EvQ.bindN (qdD (by omega)) ?_;have e:W64 (2*((2 ^ j:Nat):Int))=((2 ^ (j+1):Nat):Int):=by
    rw[Nat.pow_succ];exact qum (by omega)
   dsimp only;rw[e];refine ih (j+1) _ _ _ f (by omega) (by rw[jg,ji];omega) (qcg g ⟨?_,qaG (x:=1) (by decide) (by decide),qbh _,G⟩);rcases j with _|_|_|_|j
   ·show(1:Nat)<=1048576;decide
   ·show(1:Nat)<=1048576;decide
   ·show(1:Nat)<=1048576;decide
   ·show(1:Nat)<=1048576;decide
   ·omega
 unfold qfe;refine EvQ.bind (qaJ 50 z h) ?_;rintro⟨L,i2,i3⟩ ⟨⟨⟨p0,p1⟩,_⟩,f⟩;refine EvQ.bind (qaJ 80 z f) ?_;rintro⟨M,i5,i6⟩ ⟨⟨⟨q0,N⟩,_⟩,f⟩;dsimp only at p0 p1 q0 N;have p2:=p1 (by decide);have q2:=N (by decide);refine EvQ.bind (v k 0 [] i5 i6 f (by omega) Z (fun _ h=>by cases h)) ?_;rintro⟨K,i7,i8,i9⟩ ⟨⟨H,m⟩,f⟩;dsimp only at H m f⊢;refine EvQ.bindN (qdD (by omega)) ?_;have r:∀(d j:Nat) (x:List qak) (i l:Int),SrcI code i l->j+d=k->x.length<=j->(∀y,y∈x->qkN y) ->
   EvQ (fun n=>qd6 ⟨code,a,s⟩ J c L M K (K++[(⟨(⟨#[121]⟩:ByteArray),2,0,false⟩:qaz)]) n x i l (j:Int)) (fun o=>(o.1.length<=k/\∀y,y∈o.1->qkN y)/\SrcI code o.2.1 o.2.2.1):=by
  intro d
  induction d with
  |zero=>
   intro j x i l f A u g;refine EvQ.succ ?_;simp only[qd6];have P:x.length<=k:=by omega
   exact EvQ.ff (qn (by omega)) (EvQ.done ⟨⟨P,g⟩,f⟩)
  |succ d ih=>
   intro j x i l f A u g;refine EvQ.succ ?_;simp only[qd6,wS j];refine EvQ.tt (ql (by omega)) (EvQ.bind (D _ _ _ _ j (by omega)) (fun r1 C=>?_));refine EvQ.bif (fun _=>?_) (fun _=>ih (j+1) x i l f (by omega) (by omega) g);refine EvQ.bind (qqS (qaG (by decide) (by decide)) (qaG (by omega) (by omega)) (qaG (by omega) (by omega)) C z f) ?_;rintro⟨r2,a5,a6⟩ ⟨O,f⟩;refine EvQ.bindN (qdD (by omega)) ?_;exact ih (j+1) _ _ _ f (by omega) (by rw[jg,ji];omega) (qcg g O)
 refine EvQ.bind (r k 0 [] i7 i8 f (by omega) (Jh _) (fun _ h=>by cases h)) ?_;rintro⟨x4,Y,a3,a4⟩ ⟨⟨I,p⟩,f⟩;dsimp only at I p f;refine EvQ.done ⟨⟨B,qaG (x:=1) (by decide) (by decide),⟨?_,?_⟩,⟨?_,p⟩,⟨?_,F⟩,qaG (x:=L) (by omega) (by omega),qaG (x:=M) (by omega) (by omega)⟩,f⟩
 ·show(K++_).length<=_;rw[jg,ji];omega
 ·exact qcg m ⟨by show(1:Nat)<=1048576;decide,qaG (x:=2) (by decide) (by decide),qaG (x:=0) (by decide) (by decide),G⟩
 ·show x4.length<=_;omega
 ·show c.length<=_;omega
theorem qln{xs:List Int}(h:xs.all (fun x=>decide (-1000<=x)&&decide (x<=1000))=true):∀x,x∈xs->okI x:=by
 intro x a;have:=List.all_eq_true.1 h x a;simp only[jf,decide_eq_true_eq] at this;exact qaG (by omega) (by omega)
theorem qrw{u:ByteArray}{kind edge:Int}(d:okS u)(m:okI kind)(B:okI edge)(c:CodeOk code)(h:SrcI code a s) :
  EvQ (fun n=>qeB n ⟨code,a,s⟩ u kind edge) (fun o=>qlX o.1/\SrcI code o.2.1 o.2.2):=by
 have z:∀x:Int,-1000<=x->x<=1000->okI x:=fun x i k=>qaG (by omega) (by omega);unfold qeB;refine EvQ.bind (qaJ 50 c h) ?_;rintro⟨r,T,W⟩ ⟨⟨⟨P,p1⟩,_⟩,b⟩;refine EvQ.bind (qaJ 80 c b) ?_;rintro⟨t,X,Y⟩ ⟨⟨⟨Q,v⟩,_⟩,b⟩;dsimp only at P p1 Q v;have p2:=p1 (by decide);have q2:=v (by decide);refine EvQ.bind (qaJ 9 c b) ?_;rintro⟨O,e,i9⟩ ⟨_,b⟩;refine EvQ.bind (qaJ 9 c b) ?_;rintro⟨g,C,D⟩ ⟨_,b⟩;refine EvQ.bind (qqS B (z _ (by decide) (by decide)) (z _ (by decide) (by decide)) (z _ (by decide) (by decide)) c b) ?_;rintro⟨r1,F,H⟩ ⟨i,b⟩;refine EvQ.bind (qqS (z _ (by decide) (by decide)) (z _ (by decide) (by decide)) (z _ (by decide) (by decide)) (z _ (by decide) (by decide)) c b) ?_;rintro⟨R,I,J⟩ ⟨k,b⟩;refine EvQ.bind (qqS (z _ (by decide) (by decide)) (z _ (by decide) (by decide)) (z _ (by decide) (by decide)) (z _ (by decide) (by decide)) c b) ?_;rintro⟨S,K,L⟩ ⟨y,b⟩;dsimp only at i k y b⊢;have l:∀x,x∈[r1,R,S]->qkN x:=by
  intro x f;simp only[jI,jz,or_false] at f;rcases f with rfl|rfl|rfl<;>assumption
 have p:∀x,x∈[(⟨(⟨#[100]⟩:ByteArray),1,W64 (1+O),false⟩:qaz),(⟨(⟨#[99,107]⟩:ByteArray),1,W64 (1+g),true⟩:qaz),(⟨(⟨#[113]⟩:ByteArray),2,0,false⟩:qaz)]->qkA x:=by
  intro x f;simp only[jI,jz,or_false] at f;rcases f with rfl|rfl|rfl
  ·exact⟨by show(1:Nat)<=1048576;decide,z 1 (by decide) (by decide),qbh _,G⟩
  ·exact⟨by show(2:Nat)<=1048576;decide,z 1 (by decide) (by decide),qbh _,G⟩
  ·exact⟨by show(1:Nat)<=1048576;decide,z 2 (by decide) (by decide),z 0 (by decide) (by decide),G⟩
 refine EvQ.bif (fun _=>?_) (fun _=>?_)
 ·refine EvQ.bind (qqS (z _ (by decide) (by decide)) (z _ (by decide) (by decide)) (z _ (by decide) (by decide)) (z _ (by decide) (by decide)) c b) ?_;rintro⟨r4,M,N⟩ ⟨A,b⟩;refine EvQ.bindN (qdD (by simp)) ?_;exact EvQ.done ⟨⟨d,m,⟨by simp,p⟩,⟨by simp,qcg l A⟩,⟨Jh _,fun _ h=>by cases h⟩,z r (by omega) (by omega),z t (by omega) (by omega)⟩,b⟩
 ·exact EvQ.done ⟨⟨d,m,⟨by simp,p⟩,⟨by simp,l⟩,⟨Jh _,fun _ h=>by cases h⟩,z r (by omega) (by omega),z t (by omega) (by omega)⟩,b⟩
theorem sense1a:SenseOk 1 [1,0]:=by
 intro b ps i j p a;obtain rfl:p=0:=by omega
 exact⟨_,Ev.add 4 (fun m=>rfl),qaG (by decide) (by decide)⟩
theorem sense1b:SenseOk 1 [0,1]:=by
 intro b ps i j p a;obtain rfl:p=0:=by omega
 exact⟨_,Ev.add 4 (fun m=>rfl),qaG (by decide) (by decide)⟩
theorem sense2a:SenseOk 2 [1,1,1,0]:=by
 intro b ps i j p a;rcases p with _|_|p
 ·exact⟨_,Ev.add 8 (fun m=>rfl),qaG (by decide) (by decide)⟩
 ·exact⟨_,Ev.add 8 (fun m=>rfl),qaG (by decide) (by decide)⟩
 ·omega
theorem sense2b:SenseOk 2 [0,1,1,0]:=by
 intro b ps i j p a;rcases p with _|_|p
 ·exact⟨_,Ev.add 8 (fun m=>rfl),qaG (by decide) (by decide)⟩
 ·exact⟨_,Ev.add 8 (fun m=>rfl),qaG (by decide) (by decide)⟩
 ·omega
theorem sense3:SenseOk 3 [0,1,0,1,0,0,1,1]:=by
 intro b ps i j p a;rcases p with _|_|_|p
 ·exact⟨_,Ev.add 12 (fun m=>rfl),qaG (by decide) (by decide)⟩
 ·exact⟨_,Ev.add 12 (fun m=>rfl),qaG (by decide) (by decide)⟩
 ·exact⟨_,Ev.add 12 (fun m=>rfl),qaG (by decide) (by decide)⟩
 ·omega
theorem qvQ(c:CodeOk code)(h:SrcI code a s):EvQ (fun n=>qiV n ⟨code,a,s⟩) (fun o=>qgL o.1/\SrcI code o.2.1 o.2.2):=by
 have z:∀x:Int,-1000<=x->x<=1000->okI x:=fun x f g=>qaG (by omega) (by omega);unfold qiV;refine EvQ.bind (qoQ (k:=1) (by decide) Z sense1a (by show(3:Nat)<=1048576;decide) (qln Z) c h) ?_;rintro⟨r1,F,H⟩ ⟨f,b⟩;refine EvQ.bind (qoQ (k:=1) (by decide) Z sense1b (by show(3:Nat)<=1048576;decide) (qln Z) c b) ?_;rintro⟨P,I,J⟩ ⟨g,b⟩;refine EvQ.bind (qoQ (k:=2) (by decide) Z sense2a (by show(4:Nat)<=1048576;decide) (qln Z) c b) ?_;rintro⟨Q,K,L⟩ ⟨v,b⟩;refine EvQ.bind (qoQ (k:=2) (by decide) Z sense2b (by show(3:Nat)<=1048576;decide) (qln Z) c b) ?_;rintro⟨R,M,N⟩ ⟨y,b⟩;refine EvQ.bind (qoQ (k:=3) (by decide) Z sense3 (by show(3:Nat)<=1048576;decide) (qln Z) c b) ?_;rintro⟨S,O,i⟩ ⟨A,b⟩;refine EvQ.bind (qrw (by show(4:Nat)<=1048576;decide) (z _ (by decide) (by decide)) (z _ (by decide) (by decide)) c b) ?_;rintro⟨T,l,m⟩ ⟨B,b⟩;refine EvQ.bind (qrw (by show(5:Nat)<=1048576;decide) (z _ (by decide) (by decide)) (z _ (by decide) (by decide)) c b) ?_;rintro⟨W,p,r⟩ ⟨C,b⟩;refine EvQ.bind (qrw (by show(5:Nat)<=1048576;decide) (z _ (by decide) (by decide)) (z _ (by decide) (by decide)) c b) ?_;rintro⟨X,t,u⟩ ⟨D,b⟩;refine EvQ.done ⟨⟨⟨by simp,fun x d=>?_⟩⟩,b⟩;simp only[jI,jz,or_false] at d;rcases d with rfl|rfl|rfl|rfl|rfl|rfl|rfl|rfl<;>assumption
end

section
variable{code:List (IntK .u8)}{a s:Int}
theorem qlT(b:IntK .u8):(strOf [b]).size=1:=rfl
theorem qpV{x y:ByteArray}(h:x.size+y.size<=1048576):catB x y=V (x++y):=by
 unfold catB;rw[if_pos];have:IntKind.i64.max=9223372036854775807:=rfl;omega
theorem qts:∀(d:Nat) (k:Int),d<=15->0<=k->k<((10 ^ (d+1):Nat):Int)->EvQ (fun n=>qbM n k) (fun z=>z.size<=d+1):=by
 intro d
 induction d with
 |zero=>
  intro k f b c;refine EvQ.succ ?_;simp only[qbM];refine EvQ.ff (by simp;omega) (EvQ.tt (by simp;omega) (EvQ.done ?_));rw[qlT];exact je _
 |succ d ih=>
  intro k f b c;refine EvQ.succ ?_;simp only[qbM];refine EvQ.ff (by simp;omega) (EvQ.bif (fun _=>EvQ.done (by rw[qlT];omega)) (fun h=>?_));have l:(10:Nat) ^ (d+1+1)<=10 ^ 17:=Nat.pow_le_pow_right (by decide) (by omega);have i:k<=9223372036854775807:=by
   have:(10:Nat) ^ 17<=9223372036854775807:=by decide
   omega
  have e:k.tdiv 10=k / 10:=jB b;have e1:W64 (k.tdiv 10)=k / 10:=by rw[e];exact qT (by omega) (by omega)
  rw[e1];have a:k / 10<((10 ^ (d+1):Nat):Int):=by rw[Nat.pow_succ] at c;omega
  refine EvQ.bind (ih (k / 10) (by omega) (by omega) a) (fun m g=>?_);refine EvQ.bindN (qpV (by rw[qlT];omega)) (EvQ.done ?_);rw[ByteArray.size_append,qlT];omega
theorem qrY{k:Nat}(h:k<=1000):EvQ (fun n=>qbM n (k:Int)) (fun z=>z.size<=4):=qts 3 k (by decide) (by omega) (by omega)
theorem qu1{y:Int}(a:0<=y)(b:y<=7):∃p:Nat,idx ([2,2,3,3,4,3,3,3]:List Int) y=V (p:Int)/\2<=p/\p<=4:=by
 have:y=0\/y=1\/y=2\/y=3\/y=4\/y=5\/y=6\/y=7:=by omega
 rcases this with rfl|rfl|rfl|rfl|rfl|rfl|rfl|rfl
 ·exact⟨2,rfl,by decide,by decide⟩
 ·exact⟨2,rfl,by decide,by decide⟩
 ·exact⟨3,rfl,by decide,by decide⟩
 ·exact⟨3,rfl,by decide,by decide⟩
 ·exact⟨4,rfl,by decide,by decide⟩
 ·exact⟨3,rfl,by decide,by decide⟩
 ·exact⟨3,rfl,by decide,by decide⟩
 ·exact⟨3,rfl,by decide,by decide⟩
theorem qt7{y:Int}(a:0<=y)(b:y<12):∃p:Int,idx ([0,1,2,2,3,4,5,5,5,6,7,1]:List Int) y=V p/\0<=p/\p<=7:=by
 have:y=0\/y=1\/y=2\/y=3\/y=4\/y=5\/y=6\/y=7\/y=8\/y=9\/y=10\/y=11:=by omega
 rcases this with rfl|rfl|rfl|rfl|rfl|rfl|rfl|rfl|rfl|rfl|rfl|rfl<;>exact⟨_,rfl,by decide,by decide⟩
theorem qlN{α:Type}{xs:List α}(h:xs.length<=1048576):appS ([]:List α) xs=V xs:=by
 have:=qbP (xs:=([]:List α)) (ys:=xs) (by simp;omega);rwa [List.nil_append] at this
theorem qvm{l:List ByteArray}{m:Int}{p:Nat}(k:idx ([2,2,3,3,4,3,3,3]:List Int) m=V (p:Int))(H:2<=p)(I:p<=4)(u:l.length<=100)(i:CodeOk code) :
  ∀(d j:Nat) (x:List Int) (f g:Int),SrcI code f g->j+d+1=p->x.length=j->(∀y,y∈x->okI y) ->
   EvQ (fun n=>qdZ ⟨code,a,s⟩ l m n x f g (j:Int)) (fun o=>(o.1.length+1=p/\∀y,y∈o.1->okI y)/\SrcI code o.2.1 o.2.2.1):=by
 have h:W64 ((p:Int)-1)=((p-1:Nat):Int):=by rw[qT (by omega) (by omega)];omega
 intro d
 induction d with
 |zero=>
  intro j x f g c r t b;refine EvQ.succ ?_;simp only[qdZ];refine EvQ.bindN k ?_;rw[h];exact EvQ.ff (qn (by omega)) (EvQ.done ⟨⟨by dsimp only;omega,b⟩,c⟩)
 |succ d ih=>
  intro j x f g c r t b;refine EvQ.succ ?_;simp only[qdZ];refine EvQ.bindN k ?_;rw[h];refine EvQ.tt (ql (by omega)) (EvQ.bind (qaJ _ i c) ?_);rintro⟨v,z,A⟩ ⟨_,c⟩;refine EvQ.bind (qaJ 3 i c) ?_;rintro⟨B,C,D⟩ ⟨_,c⟩;refine EvQ.bind (R:=okI) (EvQ.bif (fun _=>EvQ.done (qbh _)) (fun _=>EvQ.done (qbh _))) (fun F hi=>?_);refine EvQ.bind (R:=fun _=>True) (EvQ.bif (fun _=>EvQ.done trivial) (fun _=>EvQ.done trivial)) (fun b3 _=>?_);rw[wS j];refine EvQ.bif (fun _=>?_) (fun _=>?_)
  ·exact EvQ.bindN (qlN (by omega)) (EvQ.bindN (qdD (by omega)) (ih (j+1) _ _ _ c (by omega) (by rw[jg,ji];omega) (qcg b (qaG (by decide) (by decide)))))
  ·exact EvQ.bindN (qlN (by omega)) (EvQ.bindN (qdD (by omega)) (ih (j+1) _ _ _ c (by omega) (by rw[jg,ji];omega) (qcg b hi)))
structure InsI(x:qz):Prop where
 ok:qlI x
 l2:2<=x.Ai.length
 l5:x.Ai.length<=5
theorem qus(B:CodeOk code):∀(r:Nat) (f:List ByteArray) (d:List qz) (i l:Int),SrcI code i l->d.length+r<=14->f.length=d.length+3->(∀y,y∈f->okS y)->(∀y,y∈d->InsI y) ->
  EvQ (fun n=>qeT ⟨code,a,s⟩ n f d i l (r:Int)) (fun o=>(o.1.length=o.2.1.length+3/\o.2.1.length=d.length+r/\(∀y,y∈o.1->okS y)/\∀y,y∈o.2.1->InsI y)/\SrcI code o.2.2.1 o.2.2.2.1):=by
 intro r
 induction r with
 |zero=>
  intro f d i l b I g m t;refine EvQ.succ ?_;simp only[qeT];exact EvQ.ff Z (EvQ.done ⟨⟨g,rfl,m,t⟩,b⟩)
 |succ r ih=>
  intro f d i l b I g m t;refine EvQ.succ ?_;simp only[qeT];refine EvQ.tt (by simp) (EvQ.bind (qaJ 12 B b) ?_);rintro⟨W,P,Q⟩ ⟨⟨⟨C,D⟩,_⟩,b⟩;dsimp only at C D b⊢;obtain⟨T,v,z,A⟩:=qt7 C (D (by decide));obtain⟨p,J,R,S⟩:=qu1 z A;refine EvQ.bindN v (EvQ.bind (qrY (show d.length<=1000 by omega)) (fun r1 K=>?_));have F:(⟨#[117]⟩:ByteArray).size=1:=rfl;have H:(⟨#[110]⟩:ByteArray).size=1:=rfl;refine EvQ.bindN (qpV (by rw[F];omega)) (EvQ.bind (qvm J R S (by omega) B (p-1) 0 [] P Q b (by omega) Z (fun _ h=>by cases h)) ?_);rintro⟨Y,M,N,O⟩ ⟨⟨u,c⟩,b⟩;dsimp only at u c b⊢;refine EvQ.bindN (qlN (by omega)) (EvQ.bindN (qdD (by omega)) (EvQ.bind (qrY (show f.length<=1000 by omega)) (fun X L=>?_)));refine EvQ.bindN (qpV (by rw[H];omega)) (EvQ.bindN (qdD (by omega)) (EvQ.bindN (qdD (by omega)) ?_));have e:W64 (((r+1:Nat):Int)-1)=(r:Int):=by rw[qT (by omega) (by omega)];omega
  rw[e];refine(ih _ _ _ _ b (by rw[jg,ji];omega) (by rw[jg,jg,ji,ji];omega) (qcg m (by show(_++_:ByteArray).size<=_;rw[ByteArray.size_append,H];omega))
   (qcg t ⟨⟨by show(_++_:ByteArray).size<=_;rw[ByteArray.size_append,F];omega,qaG (x:=T) (by omega) (by omega),⟨by show(_++_:List Int).length<=_;rw[jg,ji];omega,qcg c (qaG (by omega) (by omega))⟩⟩,by show _<=(_++_:List Int).length;rw[jg,ji];omega,by show(_++_:List Int).length<=_;rw[jg,ji];omega⟩)).mono (fun o k=>⟨⟨k.1.1,by rw[k.1.2.1,jg,ji];omega,k.1.2.2⟩,k.2⟩)
theorem qhL{α:Type}{ok:α->Prop}{xs:List α}{j:Int}{y:α}(h:∀x,x∈xs->ok x)(b:ok y):∀x,x∈setS xs j y->ok x:=by
 intro x a;unfold setS at a;rcases List.mem_or_eq_of_mem_set a with a|rfl
 ·exact h x a
 ·exact b
theorem qvX{wild:Bool}{p:List ByteArray}{h:List qz}(J:h.length<=14)(u:p.length<=100)(m:CodeOk code):∀(d j:Nat) (x:List qz) (i l:Int),SrcI code i l->j+d=h.length->x.length=h.length->(∀y,y∈x->InsI y) ->
  EvQ (fun n=>qd1 ⟨code,a,s⟩ wild p h n x i l (j:Int)) (fun o=>(o.1.length=h.length/\∀y,y∈o.1->InsI y)/\SrcI code o.2.1 o.2.2.1):=by
 intro d
 induction d with
 |zero=>
  intro j x i l c t k f;refine EvQ.succ ?_;simp only[qd1];exact EvQ.ff (qn (by omega)) (EvQ.done ⟨⟨k,f⟩,c⟩)
 |succ d ih=>
  intro j x i l c t k f;have g:j<x.length:=by omega
  refine EvQ.succ ?_;simp only[qd1,wS j];refine EvQ.tt (ql (by omega)) (EvQ.bind (R:=fun o:Int×Int×Bool=>SrcI code o.1 o.2.1) (EvQ.bind (qaJ 4 m c) ?_) ?_)
  ·rintro⟨D,F,H⟩ ⟨_,c⟩;refine EvQ.bif (fun _=>?_) (fun _=>EvQ.done c);refine EvQ.bindN (qbC g) (EvQ.bif (fun _=>EvQ.done c) (fun _=>EvQ.bindN (qbC g) (EvQ.bif (fun _=>EvQ.done c) (fun _=>EvQ.done c))))
  ·rintro⟨v,z,I⟩ c;dsimp only at c⊢;refine EvQ.bif (fun _=>?_) (fun _=>ih (j+1) x _ _ c (by omega) k f);refine EvQ.bindN (qbC g) (EvQ.bind (qaJ _ m c) ?_);rintro⟨A,B,C⟩ ⟨_,c⟩;have hi:=f _ (jo g);have r:0<x[j].Ai.length:=by have:=hi.l2;omega
   refine EvQ.bindN (b:=x[j].Ai[0]) (qbC (j:=0) r) ?_;refine ih (j+1) _ _ _ c (by omega) (by rw[qaL];exact k) (qhL f ⟨⟨hi.ok.Ba,hi.ok.Bn,⟨by show(setS _ _ _).length<=_;rw[qaL];exact hi.ok.Ai.1,qhL hi.ok.Ai.2 (qbh _)⟩⟩,by show _<=(setS _ _ _).length;rw[qaL];exact hi.l2,by show(setS _ _ _).length<=_;rw[qaL];exact hi.l5⟩)
structure DesI(d:qh):Prop where
 ok:qjb d
 sm:smallD d
 n1:1<=d.Ai.length
 p1:1<=d.Af.length
theorem qtc{most:Int}{wild:Bool}(K:2<=most)(J:most<=14)(g:CodeOk code)(h:SrcI code a s) :
  EvQ (fun n=>qiW n ⟨code,a,s⟩ most wild) (fun o=>DesI o.1/\SrcI code o.2.1 o.2.2):=by
 have z:∀x:Int,-1000<=x->x<=1000->okI x:=fun x F K=>qaG (by omega) (by omega);unfold qiW;refine EvQ.bindN (qlN (by simp)) (EvQ.bind (qaJ _ g h) ?_);rintro⟨u,O,S⟩ ⟨⟨⟨q0,C⟩,_⟩,b⟩;have I:W64 (most-1)=most-1:=qT (by omega) (by omega);rw[I] at C;dsimp only at q0 C b⊢;have q2:=C (by omega);obtain⟨m,M⟩:∃m:Nat,2+u=(m:Int):=⟨(2+u).toNat,by omega⟩;rw[wO (2+u),M];have r:∀y,y∈[(⟨#[110,99,107]⟩:ByteArray),(⟨#[110,97]⟩:ByteArray),(⟨#[110,98]⟩:ByteArray)]->okS y:=by
  intro y f;simp only[jI,jz,or_false] at f;rcases f with rfl|rfl|rfl
  ·show(3:Nat)<=1048576;decide
  ·show(2:Nat)<=1048576;decide
  ·show(2:Nat)<=1048576;decide
 refine EvQ.bind (qus g m _ [] O S b (by simp;omega) Z r (fun _ h=>by cases h)) ?_;rintro⟨p,D,i4,i5,i6⟩ ⟨⟨A,B,H,hi⟩,b⟩;dsimp only at A B H hi b⊢;have B:D.length=m:=by simpa using B
 refine EvQ.bind (qvX (wild:=wild) (by omega) (by omega) g D.length 0 D i4 i5 b (by omega) Z hi) ?_;rintro⟨c,P,Q,R⟩ ⟨⟨v,d⟩,b⟩;dsimp only at v d b⊢;have N:∀y,y∈[(⟨(⟨#[99,107]⟩:ByteArray),1,0⟩:qai),(⟨(⟨#[97]⟩:ByteArray),1,1⟩:qai),(⟨(⟨#[98]⟩:ByteArray),1,2⟩:qai)]->qqn y:=by
  intro y f;simp only[jI,jz,or_false] at f;rcases f with rfl|rfl|rfl
  ·exact⟨by show(2:Nat)<=1048576;decide,z _ (by decide) (by decide),z _ (by decide) (by decide)⟩
  ·exact⟨by show(1:Nat)<=1048576;decide,z _ (by decide) (by decide),z _ (by decide) (by decide)⟩
  ·exact⟨by show(1:Nat)<=1048576;decide,z _ (by decide) (by decide),z _ (by decide) (by decide)⟩
 refine EvQ.bindN (qlN (by simp)) (EvQ.bindN (qdD (by simp)) (EvQ.bind (qaJ 2 g b) ?_));have l:=qcg (y:=(⟨(⟨#[121]⟩:ByteArray),2,W64 ((p.length:Int)-1)⟩:qai)) N ⟨by show(1:Nat)<=1048576;decide,z 2 (by decide) (by decide),qbh _⟩;have fin:∀{ps:List qai},1<=ps.length->ps.length<=8->(∀y,y∈ps->qqn y)->DesI ⟨c,p,ps⟩:=fun {ps} F L t=>by
  refine⟨⟨⟨by show c.length<=_;omega,fun y f=>(d y f).ok⟩,⟨by show p.length<=_;omega,H⟩,⟨by show ps.length<=_;omega,t⟩⟩,⟨by show c.length<=_;omega,by show p.length<=_;omega,L,fun i hi=>?_⟩,by show 1<=p.length;omega,F⟩;have k:i<c.length:=hi;have:=d _ (jo k);show 2<=(gt c i).Ai.length/\(gt c i).Ai.length<=5;rw[qdA k];exact⟨this.l2,this.l5⟩
 rintro⟨T,W,X⟩ ⟨_,b⟩;refine EvQ.bif (fun _=>?_) (fun _=>EvQ.done ⟨fin (by simp) (by simp) l,b⟩);refine EvQ.bind (qaJ _ g b) ?_;rintro⟨Y,e,a3⟩ ⟨_,b⟩;exact EvQ.bindN (qdD (by simp)) (EvQ.done ⟨fin (by simp) (by simp) (qcg l ⟨by show(1:Nat)<=1048576;decide,z 2 (by decide) (by decide),qbh _⟩),b⟩)
end

section
variable{code:List (IntK .u8)}{a s:Int}
structure WirI(x:qV):Prop where
 ok:qmR x
 p1:1<=x.Ak.length/\x.Ak.length<=100
 r1:1<=x.Bt.length
 c1:1<=x.Bp.length
 s1:x.Bc.length<=100
theorem qoe{xs:List Int}(h:xs.length<=1048576):Ev (fun n=>qel n xs) xs:=by
 unfold qel;exact Ev.bindN (qlN h) .done
theorem quK(t:CodeOk code):∀(r:Nat) (d f g:List Int) (h m:Int),SrcI code h m->r<=10->(1<=d.length/\d.length+r<=50)->(1<=f.length/\f.length+r<=50)->(1<=g.length/\g.length+r<=50) ->
  (∀y,y∈d->okI y)->(∀y,y∈f->okI y)->(∀y,y∈g->okI y) ->
  EvQ (fun n=>qc8 ⟨code,a,s⟩ n d f g h m (r:Int)) (fun o=>(((1<=o.1.length/\o.1.length<=50)/\∀y,y∈o.1->okI y)/\((1<=o.2.1.length/\o.2.1.length<=50)/\∀y,y∈o.2.1->okI y)/\(1<=o.2.2.1.length/\o.2.2.1.length<=50)/\∀y,y∈o.2.2.1->okI y)/\SrcI code o.2.2.2.1 o.2.2.2.2.1):=by
 intro r
 induction r with
 |zero=>
  intro d f g h m c F u l2 v i l p;refine EvQ.succ ?_;simp only[qc8];exact EvQ.ff Z (EvQ.done ⟨⟨⟨⟨u.1,by dsimp only;omega⟩,i⟩,⟨⟨l2.1,by dsimp only;omega⟩,l⟩,⟨v.1,by dsimp only;omega⟩,p⟩,c⟩)
 |succ r ih=>
  intro d f g h m c F u l2 v i l p;have e:W64 (((r+1:Nat):Int)-1)=(r:Int):=by rw[qT (by omega) (by omega)];omega
  have b:∀{x:Int} {k:Int},0<=x->x<k->k<=1000->okI x:=fun Q i l=>qaG (by omega) (by omega);refine EvQ.succ ?_;simp only[qc8,e];refine EvQ.tt (by simp) (EvQ.bindE (qoe (by omega)) (EvQ.bind (qaJ _ t c) ?_));rintro⟨H,I,J⟩ ⟨⟨⟨z,p1⟩,_⟩,c⟩;refine EvQ.bindN (qdD (by omega)) (EvQ.bindE (qoe (by omega)) (EvQ.bind (qaJ _ t c) ?_));rintro⟨K,L,M⟩ ⟨⟨⟨A,B⟩,_⟩,c⟩;refine EvQ.bindN (qdD (by omega)) (EvQ.bindE (qoe (by omega)) (EvQ.bind (qaJ _ t c) ?_));rintro⟨N,O,P⟩ ⟨⟨⟨C,D⟩,_⟩,c⟩;dsimp only at z p1 A B C D c;refine EvQ.bindN (qdD (by omega)) ?_;exact ih _ _ _ _ _ c (by omega) (by rw[jg,ji];omega) (by rw[jg,ji];omega) (by rw[jg,ji];omega)
   (qcg i (b C (D (by decide)) (by decide))) (qcg l (b A (B (by decide)) (by decide))) (qcg p (b z (p1 (by omega)) (by omega)))
theorem quu{r1:qV}{i:List Int}(l:CodeOk code)(z:r1.Bc.length<=100)(v:1<=i.length/\i.length<=50):∀(d j:Nat) (x:List Int) (f g:Int),SrcI code f g->j+d=r1.Bc.length->x.length=r1.Bc.length->(∀y,y∈x->okI y) ->
  EvQ (fun n=>qc9 ⟨code,a,s⟩ r1 i n x f g (j:Int)) (fun o=>(o.1.length=r1.Bc.length/\∀y,y∈o.1->okI y)/\SrcI code o.2.1 o.2.2.1):=by
 intro d
 induction d with
 |zero=>
  intro j x f g c m h b;refine EvQ.succ ?_;simp only[qc9];exact EvQ.ff (qn (by omega)) (EvQ.done ⟨⟨h,b⟩,c⟩)
 |succ d ih=>
  intro j x f g c m h b;refine EvQ.succ ?_;simp only[qc9,wS j];refine EvQ.tt (ql (by omega)) (EvQ.bind (qaJ _ l c) ?_);rintro⟨p,r,t⟩ ⟨⟨⟨u,k⟩,_⟩,c⟩;dsimp only at u k c⊢;have A:=k (by omega);exact EvQ.bindN (qbC (show j<x.length by omega)) (ih (j+1) _ _ _ c (by omega) (by rw[qaL];exact h) (qhL b (qaG (by omega) (by omega))))
theorem qvo{m:Nat}(S:m<=100)(c:CodeOk code)(h:SrcI code a s):EvQ (fun n=>qgW n ⟨code,a,s⟩ (m:Int)) (fun o=>WirI o.1/\SrcI code o.2.1 o.2.2):=by
 have z:∀x:Int,-1000<=x->x<=1000->okI x:=fun x f g=>qaG (by omega) (by omega);unfold qgW;refine EvQ.bind (qaJ 6 c h) ?_;rintro⟨d,T,W⟩ ⟨⟨⟨O,p1⟩,_⟩,b⟩;dsimp only at O p1 b⊢;have Y:=p1 (by decide);have D:Ev (fun n=>qhR n (m:Int) d) (⟨[-1],[0],[d],List.replicate m 0⟩:qV):=by
  unfold qhR;exact Ev.bindN (qko (by omega)) .done
 refine EvQ.bindE D (EvQ.bind (qaJ 4 c b) ?_);rintro⟨t,K,L⟩ ⟨⟨⟨P,A⟩,_⟩,b⟩;dsimp only at P A b⊢;have e:=A (by decide);obtain⟨r,rfl⟩:∃r:Nat,t=(r:Int):=⟨t.toNat,by omega⟩;have one:∀{x:Int},okI x->∀y,y∈[x]->okI y:=fun F y i=>by obtain rfl:=List.mem_singleton.1 i;exact F
 refine EvQ.bind (quK c r [d] [0] [-1] K L b (by omega) (by simp;omega) (by simp;omega) (by simp;omega) (one (z _ (by omega) (by omega))) (one (z _ (by decide) (by decide))) (one (z _ (by decide) (by decide)))) ?_;rintro⟨Q,R,B,M,N,X⟩ ⟨⟨⟨u,f⟩,⟨l2,g⟩,k,p⟩,b⟩;dsimp only at u f l2 g k p b⊢;refine EvQ.bind (quu (r1:=⟨[-1],[0],[d],List.replicate m 0⟩) c (by simp;omega) k m 0 (List.replicate m 0) M N b (by simp) Z (fun y i=>by obtain⟨_,rfl⟩:=List.mem_replicate.1 i;exact z _ (by decide) (by decide))) ?_;rintro⟨l,H,I,J⟩ ⟨⟨v,C⟩,b⟩;have v:l.length=m:=by simpa using v
 exact EvQ.done ⟨⟨⟨⟨by show B.length<=_;omega,p⟩,⟨by show R.length<=_;omega,g⟩,⟨by show Q.length<=_;omega,f⟩,⟨by show l.length<=_;omega,C⟩⟩,⟨k.1,by show B.length<=_;omega⟩,l2.1,u.1,by show l.length<=_;omega⟩,b⟩
structure BlkI(b:qe):Prop where
 lib:qgL b.Ah
 des:DesI b.Aa
 wl:b.Ac.length=b.Aa.Ai.length
 wi:∀y,y∈b.Ac->WirI y
theorem BlkI.ok{b:qe}(h:BlkI b):qiw b:=⟨h.lib,h.des.ok,⟨by rw[h.wl];exact h.des.ok.Ai.1,fun y a=>(h.wi y a).ok⟩⟩
theorem qmO{most:Int}{wild:Bool}(u:2<=most)(m:most<=14)(p:CodeOk code)(h:SrcI code a s) :
  EvQ (fun n=>qe5 n ⟨code,a,s⟩ most wild) (fun o=>BlkI o.1/\SrcI code o.2.1 o.2.2):=by
 unfold qe5;refine EvQ.bind (qvQ p h) ?_;rintro⟨r1,J,K⟩ ⟨r,b⟩;refine EvQ.bind (qtc u m p b) ?_;rintro⟨c,F,H⟩ ⟨g,b⟩;dsimp only at r g b⊢;have A:=g.sm.nn;have B:=qaY g.sm;have i:∀(d j:Nat) (x:List qV) (k l:Int),SrcI code k l->j+d=c.Ai.length->x.length=j->(∀y,y∈x->WirI y) ->
   EvQ (fun n=>qe0 ⟨code,a,s⟩ c n x k l (j:Int)) (fun o=>(o.1.length=c.Ai.length/\∀y,y∈o.1->WirI y)/\SrcI code o.2.1 o.2.2.1):=by
  intro d
  induction d with
  |zero=>
   intro j x k l b z D f;refine EvQ.succ ?_;simp only[qe0];exact EvQ.ff (qn (by omega)) (EvQ.done ⟨⟨by dsimp only;omega,f⟩,b⟩)
  |succ d ih=>
   intro j x k l b z D f;refine EvQ.succ ?_;simp only[qe0,wS j];have C:(sinksL c (j:Int) (places c).length).length<=78:=by
    have:(sinksL c (j:Int) (places c).length).length<=(places c).length:=by
     unfold sinksL;rw[jp];refine Jf (List.length_filter_le _ _) ?_;rw[List.length_range];exact je _
    omega
   refine EvQ.tt (ql (by omega)) (EvQ.bindE (qjC g.sm) (EvQ.bind (qvo (by omega) p b) ?_));rintro⟨Q,O,P⟩ ⟨v,b⟩;exact EvQ.bindN (qdD (by omega)) (ih (j+1) _ _ _ b (by omega) (by rw[jg,ji];omega) (qcg f v))
 refine EvQ.bind (i c.Ai.length 0 [] F H b (by omega) Z (fun _ h=>by cases h)) ?_;rintro⟨R,L,M,N⟩ ⟨⟨I,t⟩,b⟩;exact EvQ.done ⟨⟨r,g,I,t⟩,b⟩
structure BlkO(b:qe):Prop where
 ok:qiw b
 sm:smallD b.Aa
theorem qrM(g:CodeOk code)(h:SrcI code a s):EvQ (fun n=>qhs n ⟨code,a,s⟩) (fun o=>BlkO o.1/\SrcI code o.2.1 o.2.2):=by
 unfold qhs;refine EvQ.bind (qaJ 3 g h) ?_;rintro⟨X,Y,i3⟩ ⟨_,d⟩;refine EvQ.bind (qmO (by decide) (by decide) g d) ?_;rintro⟨r1,i4,i5⟩ ⟨b,d⟩;dsimp only at b d⊢;have D:1<=r1.Ac.length:=by rw[b.wl];exact b.des.n1
 have F:r1.Ac.length<=30:=by rw[b.wl];exact b.des.sm.nn
 refine EvQ.bind (qaJ _ g d) ?_;rintro⟨p,i7,i8⟩ ⟨⟨⟨O,r⟩,_⟩,d⟩;dsimp only at O r d⊢;have q2:=r (by omega);obtain⟨k,rfl⟩:∃k:Nat,p=(k:Int):=⟨p.toNat,by omega⟩;have i:k<r1.Ac.length:=by omega
 have c:=b.wi _ (jo i);have W:∀{y:qV},qmR y->BlkO ⟨r1.Ah,r1.Aa,setS r1.Ac (k:Int) y⟩:=fun {y} h=>⟨⟨b.lib,b.des.ok,⟨by show(setS _ _ _).length<=_;rw[qaL];omega,qhL (fun y c=>(b.wi y c).ok) h⟩⟩,b.des.sm⟩;have z:∀x:Int,-1000<=x->x<=1000->okI x:=fun x Q R=>qaG (by omega) (by omega);have S:=c.p1;have T:=c.r1;have u:=c.c1;have B:=c.s1;refine EvQ.bind (qaJ 20 g d) ?_;rintro⟨i9,H,I⟩ ⟨_,d⟩;dsimp only at d⊢;refine EvQ.bif (fun _=>?_) (fun _=>EvQ.bif (fun _=>?_) (fun _=>EvQ.bif (fun _=>?_) (fun _=>EvQ.bif (fun _=>?_) (fun _=>EvQ.bif (fun _=>?_) (fun _=>EvQ.bif (fun _=>?_) (fun _=>EvQ.done ⟨⟨b.ok,b.des.sm⟩,d⟩))))))
 ·have e:subS r1.Ac 1 (r1.Ac.length:Int)=V (r1.Ac.drop 1):=by
   unfold subS;rw[if_pos (by omega)];simp
  refine EvQ.bindN e (EvQ.done ⟨⟨⟨b.lib,b.des.ok,⟨by show(r1.Ac.drop 1).length<=_;rw[List.length_drop];omega,fun y c=>(b.wi y (List.mem_of_mem_drop c)).ok⟩⟩,b.des.sm⟩,d⟩)
 ·refine EvQ.bindN (qbC i) (EvQ.bindE (qoe (by omega)) (EvQ.bindN (qdD (by omega)) (EvQ.done ⟨W ⟨c.ok.Ak,c.ok.Bt,c.ok.Bp,⟨by show(_++_:List Int).length<=_;rw[jg,ji];omega,qcg c.ok.Bc.2 (z _ (by decide) (by decide))⟩⟩,d⟩)))
 ·refine EvQ.bindN (qbC i) (EvQ.bindN (qbC (j:=0) (show 0<r1.Ac[k].Bt.length by omega)) (EvQ.done ⟨W ⟨c.ok.Ak,⟨by show(setS _ _ _).length<=_;rw[qaL];exact c.ok.Bt.1,qhL c.ok.Bt.2 (z _ (by decide) (by decide))⟩,c.ok.Bp,c.ok.Bc⟩,d⟩))
 ·refine EvQ.bindN (qbC i) (EvQ.bind (qaJ 3 g d) ?_);rintro⟨f,J,K⟩ ⟨⟨⟨P,t⟩,_⟩,d⟩;dsimp only at P t d⊢;have t2:=t (by decide);have:f=0\/f=1\/f=2:=by omega
  have C:∃v:Int,idx ([(-1),500,501]:List Int) f=V v/\okI v:=by
   rcases this with rfl|rfl|rfl
   ·exact⟨_,rfl,z _ (by decide) (by decide)⟩
   ·exact⟨_,rfl,z _ (by decide) (by decide)⟩
   ·exact⟨_,rfl,z _ (by decide) (by decide)⟩
  obtain⟨v,l,m⟩:=C;exact EvQ.bindN l (EvQ.bindN (qbC (j:=0) (show 0<r1.Ac[k].Bp.length by omega)) (EvQ.done ⟨W ⟨c.ok.Ak,c.ok.Bt,⟨by show(setS _ _ _).length<=_;rw[qaL];exact c.ok.Bp.1,qhL c.ok.Bp.2 m⟩,c.ok.Bc⟩,d⟩))
 ·refine EvQ.bindN (qbC i) (EvQ.bind (qaJ 5 g d) ?_);rintro⟨L,M,N⟩ ⟨_,d⟩;have e:W64 ((r1.Ac[k].Ak.length:Int)-1)=((r1.Ac[k].Ak.length-1:Nat):Int):=by rw[qT (by omega) (by omega)];omega
  dsimp only;rw[e];exact EvQ.bindN (qbC (show r1.Ac[k].Ak.length-1<r1.Ac[k].Ak.length by omega)) (EvQ.done ⟨W ⟨⟨by show(setS _ _ _).length<=_;rw[qaL];exact c.ok.Ak.1,qhL c.ok.Ak.2 (qbh _)⟩,c.ok.Bt,c.ok.Bp,c.ok.Bc⟩,d⟩)
 ·have A:=b.des.p1;refine EvQ.bindN (qbC (j:=0) (show 0<r1.Aa.Af.length by omega)) (EvQ.done ⟨⟨⟨b.lib,⟨b.des.ok.Ab,b.des.ok.Ai,⟨by show(setS _ _ _).length<=_;rw[qaL];exact b.des.ok.Af.1,qhL b.des.ok.Af.2 ⟨(b.des.ok.Af.2 _ (jo _)).Ba,z 3 (by decide) (by decide),(b.des.ok.Af.2 _ (jo _)).Bz⟩⟩⟩,b.ok.Ac⟩,⟨b.des.sm.ni,b.des.sm.nn,by show(setS _ _ _).length<=_;rw[qaL];exact b.des.sm.np,b.des.sm.nx⟩⟩,d⟩)
end

def sumZ(f:Nat->Int):Nat->Int
 |0=>0
 |n+1=>sumZ f n+f n
theorem qrr{f g:Nat->Int}{n:Nat}(h:∀u,u<n->f u=g u):sumZ f n=sumZ g n:=by
 induction n with
 |zero=>rfl
 |succ n ih=>unfold sumZ;rw[ih (fun u a=>h u (by omega)),h n (by omega)]
theorem qqz{f g:Nat->Int}{a n:Nat}(d:a<n)(h:∀u,u<n->u≠a->f u=g u):sumZ f n=sumZ g n+(f a-g a):=by
 induction n with
 |zero=>omega
 |succ n ih=>
  unfold sumZ;by_cases b:a=n
  ·subst b;rw[qrr (fun u c=>h u (by omega) (by omega))];omega
  ·rw[ih (by omega) (fun u c=>h u (by omega)),h n (by omega) (by omega)];omega
theorem quA{f:Nat->Int}{n:Nat}(h:∀u,u<n->0<=f u):0<=sumZ f n:=by
 induction n with
 |zero=>exact jT _
 |succ n ih=>unfold sumZ;have:=ih (fun u a=>h u (by omega));have:=h n (by omega);omega
theorem qpL{f:Nat->Int}{a n:Nat}(h:∀u,u<n->0<=f u)(d:a<n):f a<=sumZ f n:=by
 induction n with
 |zero=>omega
 |succ n ih=>
  unfold sumZ;by_cases b:a=n
  ·subst b;have:=quA (fun u (c:u<a)=>h u (by omega));omega
  ·have:=ih (fun u c=>h u (by omega)) (by omega);have:=h n (by omega);omega
theorem que{f:Nat->Int}{n:Nat}{c:Int}(h:∀u,u<n->f u<=c):sumZ f n<=n*c:=by
 induction n with
 |zero=>simp[sumZ]
 |succ n ih=>
  unfold sumZ;have:=ih (fun u a=>h u (by omega));have:=h n (by omega);rw[Int.natCast_succ,Int.add_mul];omega
def pinCap(b:qe)(p:Tplace):Int:=bif decide (p.instance_<0) then 0 else(gt (cellAt b p.instance_).As p.pin.toNat).Bp
def capJ(b:qe)(j:Nat):Int:=pinCap b (gt (places b.Aa) j)
theorem qtY{b:qe}(h:blockB b=true){j:Nat}(d:j<(places b.Aa).length){n:Nat}:qgt n b.Aa b.Ah (gt (places b.Aa) j)=V (capJ b j):=by
 have c:=qao h;unfold capJ pinCap;rcases qjP d with⟨i,k,hi,hk,_,e⟩|⟨i,hi,_,e⟩
 ·rw[e];obtain⟨⟨a,c1⟩,f,_⟩:=qgo c hi;unfold place1 cellAt;simp only[qgt,show decide ((i:Int)<0)=false by simp,cond_false,qD hi,jd,qdV a c1,ju,qD (show k<(gt b.Ah.Aj (gt b.Aa.Ab i).Bn.toNat).As.length by omega)]
 ·rw[e];rfl
theorem qtm{b:qe}(h:blockB b=true){j:Nat}(f:j<(places b.Aa).length):0<=capJ b j/\capJ b j<=500:=by
 have d:=qao h;unfold capJ pinCap;rcases qjP f with⟨i,k,hi,hk,_,e⟩|⟨i,hi,_,e⟩
 ·rw[e];obtain⟨⟨g,c1⟩,l,c⟩:=qgo d hi;unfold place1 cellAt;simp only[show decide ((i:Int)<0)=false by simp,cond_false,ju];have a:=qgO c;unfold pinsB at a;rw[jf,qaI] at a;have:=a.1 k (by omega);unfold pinB at this;cases hl:decide (k+1=(gt b.Ah.Aj (gt b.Aa.Ab i).Bn.toNat).As.length)
  ·rw[hl] at this;simp only[cond_false,jf,qbd] at this;exact this.2
  ·rw[hl] at this;simp only[cond_true,jf,beq_iff_eq] at this;omega
 ·rw[e];exact⟨jT _,show(0:Int)<=500 by omega⟩
def skL(b:qe)(i:Nat):List Int:=sinksL b.Aa (i:Int) (places b.Aa).length
def addSink(b:qe)(w:qV)(sk:List Int)(t:List Int)(j:Nat):List Int:=setS t (at0 w.Bc j) (W64 (gt t (at0 w.Bc j).toNat+capJ b (at0 sk j).toNat))
def ldA(b:qe)(w:qV)(sk:List Int):Nat->List Int
 |0=>w.Bp
 |j+1=>addSink b w sk (ldA b w sk j) j
def addUp(w:qV)(t:List Int)(j:Nat):List Int:=setS t (at0 w.Ak j) (W64 (gt t (at0 w.Ak j).toNat+gt t j))
def ldB(w:qV):Nat->List Int->List Int
 |0,t=>t
 |j+1,t=>ldB w j (addUp w t (j+1))
def loadsL(b:qe)(i:Nat):List Int:=ldB (gt b.Ac i) ((gt b.Ac i).Ak.length-1) (ldA b (gt b.Ac i) (skL b i) (skL b i).length)
theorem qmE{b:qe}{w:qV}{sk:List Int}{j:Nat}:(ldA b w sk j).length=w.Bp.length:=by
 induction j with
 |zero=>rfl
 |succ j ih=>unfold ldA addSink;rw[qaL,ih]
theorem quE{w:qV}{j:Nat}{t:List Int}:(ldB w j t).length=t.length:=by
 induction j generalizing t with
 |zero=>rfl
 |succ j ih=>unfold ldB addUp;rw[ih,qaL]
theorem qkI{b:qe}(h:blockB b=true){i:Nat}(hi:i<b.Ac.length):(loadsL b i).length=(gt b.Ac i).Ak.length:=by
 unfold loadsL;rw[quE,qmE,(qbE h hi).cap]
theorem qgY{b:qe}(h:blockB b=true){i:Nat}:(skL b i).length<=78:=by
 have a:=qaY (qY (qao h));unfold skL;rw[qif];have:cntP (snkQ b.Aa (i:Int)) (places b.Aa).length<=(places b.Aa).length:=qf0;omega
theorem qm4{b:qe}{i j:Nat}(a:j<(skL b i).length):∃y:Nat,y<(places b.Aa).length/\at0 (skL b i) j=(y:Int)/\snkQ b.Aa (i:Int) y=true:=by
 obtain⟨y,c,d,f⟩:=qsb a;exact⟨y,c,by have:=d;rw[show(sinksL b.Aa (i:Int) (places b.Aa).length)=skL b i from rfl,qaA a] at this;exact Option.some.inj this,f⟩
theorem qmy{b:qe}(h:blockB b=true){i:Nat}(hi:i<b.Ac.length):Ev (fun n=>qdJ n b (i:Int)) (loadsL b i):=by
 have c:=qbE h hi;have m:=qY (qao h);have u:=c.lo;have r:=c.hi;have d:=c.cap;have x:=qgY h (i:=i);have e1:Ev (fun n=>qbr b (gt b.Ac i) (places b.Aa) (skL b i) n (gt b.Ac i).Bp 0) (ldA b (gt b.Ac i) (skL b i) (skL b i).length,((skL b i).length:Int)):=by
  refine loopF (Lf:=qbr b (gt b.Ac i) (places b.Aa) (skL b i)) (S:=ldA b (gt b.Ac i) (skL b i)) (len:=(skL b i).length) (fun n=>?_) (fun j a X l=>?_)
  ·simp only[qbr,qn (je _),cond_false]
  ·obtain⟨y,o,k,_⟩:=qm4 a;have f:j<(gt b.Ac i).Bc.length:=by rw[c.snk];exact a
   have g:=c.sin j f;have s:=qmE (b:=b) (w:=gt b.Ac i) (sk:=skL b i) (j:=j);simp only[qbr,ql a,cond_true,qaA a,k,jd,qaA f,qdV g.1 (show at0 (gt b.Ac i).Bc j<((ldA b (gt b.Ac i) (skL b i) j).length:Int) by omega),qD o,qtY h o,wS j];have:ldA b (gt b.Ac i) (skL b i) (j+1)=setS (ldA b (gt b.Ac i) (skL b i) j) (at0 (gt b.Ac i).Bc j) (W64 (gt (ldA b (gt b.Ac i) (skL b i) j) (at0 (gt b.Ac i).Bc j).toNat+capJ b y)):=by
    show addSink _ _ _ _ _=_;unfold addSink;rw[k,ju]
   rw[this] at l;exact l
 have p:∀j t,t.length=(gt b.Ac i).Ak.length->j<(gt b.Ac i).Ak.length->Ev (fun n=>qbA (gt b.Ac i) n t (j:Int)) (ldB (gt b.Ac i) j t,0):=by
  intro j
  induction j with
  |zero=>
   intro t _ _;refine Ev.succ ?_;show Ev (fun n=>qbA (gt b.Ac i) (n+1) t 0) _;unfold qbA;exact Ev.ff Z .done
  |succ j ih=>
   intro t z a;have v:=c.par (j+1) (by omega) a;refine Ev.succ ?_;simp only[qbA,show decide (((j+1:Nat):Int) > 0)=true from decide_eq_true (by omega),cond_true,qaA a,jd,qdV v.1 (show at0 (gt b.Ac i).Ak (j+1)<(t.length:Int) by omega),qD (show j+1<t.length by omega),show((j+1:Nat):Int)-1=(j:Int) by omega,qT (show -9223372036854775808<=(j:Int) by omega) (by omega)];exact ih _ (by rw[qaL];exact z) (by omega)
 unfold qdJ qhx;rw[qD hi];simp only[jd,qbP (show([]:List Int).length+(gt b.Ac i).Bp.length<=2147483648 by simp;omega),List.nil_append];refine Ev.bind (qlS m) (Ev.bind (qpa m) (Ev.bind e1 ?_));rw[qe9 (show(gt b.Ac i).Bp.length<=9223372036854775807 by omega),show((gt b.Ac i).Bp.length:Int)-1=(((gt b.Ac i).Ak.length-1:Nat):Int) by omega];exact Ev.bind (p _ _ (by rw[qmE];exact d) (by omega)) .done
structure LdOk(t:List Int)(L:Nat)(S:Int):Prop where
 len:t.length=L
 nn:∀k,k<L->0<=gt t k
 sum:sumZ (gt t) L<=S
theorem qkM{t:List Int}{a:Nat}{y:Int}{k:Nat}(b:a<t.length):gt (setS t (a:Int) y) k=if k=a then y else gt t k:=by
 unfold setS;rw[ju];by_cases h:k=a
 ·subst h;rw[if_pos Z,qnO b]
 ·rw[if_neg h,qpm h]
theorem qvp{b:qe}(h:blockB b=true){i:Nat}(hi:i<b.Ac.length)(m:∀k,k<(gt b.Ac i).Bp.length->0<=gt (gt b.Ac i).Bp k/\gt (gt b.Ac i).Bp k<=500) :
  ∀j,j<=(skL b i).length->LdOk (ldA b (gt b.Ac i) (skL b i) j) (gt b.Ac i).Ak.length (4000+500*j):=by
 have p:=qbE h hi;have z:=p.hi;have l:=p.cap;have A:=qgY h (i:=i);intro j
 induction j with
 |zero=>
  intro _;refine⟨l,fun k t=>(m k (by omega)).1,?_⟩;have:=que (f:=gt (gt b.Ac i).Bp) (n:=(gt b.Ac i).Ak.length) (c:=500) (fun u I=>(m u (by omega)).2);show sumZ (gt (gt b.Ac i).Bp) _<=_;omega
 |succ j ih=>
  intro F;obtain⟨C,n1,s1⟩:=ih (by omega);obtain⟨y,B,v,_⟩:=qm4 (show j<(skL b i).length by omega);have D:=qtm h B;have o:=p.sin j (by rw[p.snk];exact(show j<(skL b i).length by omega));obtain⟨a,s⟩:∃a:Nat,at0 (gt b.Ac i).Bc j=(a:Int):=⟨_,qgT o.1⟩;rw[s] at o;have d:a<(gt b.Ac i).Ak.length:=by omega
  have x:=qpL n1 d;have H:=n1 a d;have e:ldA b (gt b.Ac i) (skL b i) (j+1)=setS (ldA b (gt b.Ac i) (skL b i) j) (a:Int) (gt (ldA b (gt b.Ac i) (skL b i) j) a+capJ b y):=by
   show addSink _ _ _ _ _=_;unfold addSink;rw[v,s,ju,ju,qT (by omega) (by omega)]
  rw[e];refine⟨by rw[qaL];exact C,fun k t=>?_,?_⟩
  ·rw[qkM (by omega)];split
   ·omega
   ·exact n1 k t
  ·rw[qqz (g:=gt (ldA b (gt b.Ac i) (skL b i) j)) d (fun u _ r=>by rw[qkM (by omega),if_neg r]),qkM (by omega),if_pos Z];omega
theorem qvf{b:qe}(h:blockB b=true){i:Nat}(hi:i<b.Ac.length){S:Int}(A:S<=1000000000):∀j t,j<(gt b.Ac i).Ak.length->t.length=(gt b.Ac i).Ak.length->(∀k,k<t.length->0<=gt t k/\gt t k<=S)->sumZ (gt t) (j+1)<=S ->
  ∀k,k<t.length->0<=gt (ldB (gt b.Ac i) j t) k/\gt (ldB (gt b.Ac i) j t) k<=S:=by
 have x:=qbE h hi;intro j
 induction j with
 |zero=>intro t _ _ c _;exact c
 |succ j ih=>
  intro t s v c r;have p:=x.par (j+1) (by omega) s;obtain⟨a,o⟩:∃a:Nat,at0 (gt b.Ac i).Ak (j+1)=(a:Int):=⟨_,qgT p.1⟩;rw[o] at p;have y:=c a (by omega);have z:=c (j+1) (by omega);have e:addUp (gt b.Ac i) t (j+1)=setS t (a:Int) (gt t a+gt t (j+1)):=by
   unfold addUp;rw[o,ju,qT (by omega) (by omega)]
  have n:sumZ (gt (setS t (a:Int) (gt t a+gt t (j+1)))) (j+1)<=S:=by
   rw[qqz (g:=gt t) (a:=a) (by omega) (fun u _ l=>by rw[qkM (by omega),if_neg l]),qkM (by omega),if_pos Z];have:sumZ (gt t) (j+1+1)=sumZ (gt t) (j+1)+gt t (j+1):=rfl;omega
  unfold ldB;rw[e];have:=ih (setS t (a:Int) (gt t a+gt t (j+1))) (by omega) (by rw[qaL];exact v) (fun k f=>by
   rw[qaL] at f;have m:∀u,u<j+1->0<=gt (setS t (a:Int) (gt t a+gt t (j+1))) u:=fun u B=>by
    rw[qkM (by omega)];split
    ·omega
    ·exact(c u (by omega)).1
   have d:=qpL m (show a<j+1 by omega);rw[qkM (by omega)] at d⊢;rw[if_pos Z] at d;split
   ·omega
   ·exact c k f) n
  rw[qaL] at this;exact this
theorem qnK{b:qe}(h:blockB b=true){i:Nat}(hi:i<b.Ac.length):(∀k,k<(gt b.Ac i).Bp.length->0<=gt (gt b.Ac i).Bp k/\gt (gt b.Ac i).Bp k<=500)/\(∀k,k<(gt b.Ac i).Bt.length->0<=at0 (gt b.Ac i).Bt k/\at0 (gt b.Ac i).Bt k<=1000):=by
 unfold blockB at h;rw[jf,qaI] at h;have:=h.2 i hi;unfold wireB lenB at this;simp only[jf,decide_eq_true_eq,beq_iff_eq] at this;obtain⟨_,_,_,_,f,c,_⟩:=this;rw[qgN (d:=0),qaI] at f c;exact⟨fun k a=>by have:=c k a;rw[qbd] at this;exact this,fun k a=>by have:=f k a;rw[qbd] at this;exact this⟩
theorem qrJ{b:qe}(h:blockB b=true){i:Nat}(hi:i<b.Ac.length){k:Nat}(c:k<(gt b.Ac i).Ak.length):0<=gt (loadsL b i) k/\gt (loadsL b i) k<=43000:=by
 have g:=qbE h hi;have d:=g.lo;have f:=qgY h (i:=i);obtain⟨l,n1,s1⟩:=qvp h hi (qnK h hi).1 (skL b i).length (je _);have:=qvf h hi (S:=43000) (by omega) ((gt b.Ac i).Ak.length-1) (ldA b (gt b.Ac i) (skL b i) (skL b i).length) (by omega) l (fun k c=>by
  have a:=n1 k (by omega);have m:=qpL n1 (show k<(gt b.Ac i).Ak.length by omega);exact⟨a,by omega⟩) (by rw[show(gt b.Ac i).Ak.length-1+1=(gt b.Ac i).Ak.length by omega];omega) k (by omega)
 exact this
def dlL(w:qV)(ld:List Int):Nat->List Int
 |0=>[0]
 |k+1=>dlL w ld k++[W64 (gt (dlL w ld k) (at0 w.Ak (k+1)).toNat+W64 (at0 w.Bt (k+1)*gt ld (k+1)))]
theorem qmJ{w:qV}{ld:List Int}{k:Nat}:(dlL w ld k).length=k+1:=by
 induction k with
 |zero=>rfl
 |succ k ih=>unfold dlL;rw[jg,ih];rfl
def delaysL(b:qe)(i:Nat):List Int:=dlL (gt b.Ac i) (loadsL b i) ((gt b.Ac i).Ak.length-1)
def exactL(b:qe)(i:Nat):List Int:=(gt b.Ac i).Bc.map fun s=>gt (delaysL b i) s.toNat
theorem qlo{b:qe}(h:blockB b=true){i:Nat}(hi:i<b.Ac.length):(delaysL b i).length=(gt b.Ac i).Ak.length:=by
 unfold delaysL;rw[qmJ];have:=(qbE h hi).lo;omega
theorem qua{w:qV}{ld:List Int}{k m:Nat}(b:k+1<m)(c:at0 w.Ak (k+1)<((k+1:Nat):Int))(_:0<=at0 w.Ak (k+1)) :
  setS (dlL w ld k++List.replicate (m-(k+1)) 0) ((k+1:Nat):Int) (W64 (gt (dlL w ld k++List.replicate (m-(k+1)) 0) (at0 w.Ak (k+1)).toNat+W64 (at0 w.Bt (k+1)*gt ld (k+1))))=dlL w ld (k+1)++List.replicate (m-(k+1+1)) 0:=by
 have a:=qmJ (w:=w) (ld:=ld) (k:=k);have e1:gt (dlL w ld k++List.replicate (m-(k+1)) 0) (at0 w.Ak (k+1)).toNat=gt (dlL w ld k) (at0 w.Ak (k+1)).toNat:=by
  rw[qkl,if_pos (by omega)]
 rw[e1];unfold setS;rw[ju,List.set_append,if_neg (by omega),a,Nat.sub_self,show m-(k+1)=(m-(k+1+1))+1 by omega,List.replicate_succ,List.set_cons_zero];show _=(dlL w ld k++[_])++_;rw[jt]
 rfl
theorem qo7{b:qe}(h:blockB b=true){i:Nat}(hi:i<b.Ac.length):Ev (fun n=>qeN n b (i:Int)) (delaysL b i):=by
 have f:=qbE h hi;have t:=f.lo;have r:=f.hi;have o:=f.res;have p:=qkI h hi;have l:mkS ((loadsL b i).length:Int) (0:Int)=V (List.replicate (loadsL b i).length 0):=quU (by omega);have c:∀d k,k+1+d=(gt b.Ac i).Ak.length->Ev (fun n=>qbR (gt b.Ac i) (loadsL b i) (List.replicate (loadsL b i).length 0) n (dlL (gt b.Ac i) (loadsL b i) k++List.replicate ((gt b.Ac i).Ak.length-(k+1)) 0) ((k+1:Nat):Int)) (delaysL b i,((loadsL b i).length:Int)):=by
  intro d
  induction d with
  |zero=>
   intro k g;refine Ev.succ ?_;simp only[qbR,jP,qn (show(loadsL b i).length<=k+1 by omega),cond_false];refine Ev.now ?_;rw[show(gt b.Ac i).Ak.length-(k+1)=0 by omega,List.replicate_zero,List.append_nil,p,<-g];unfold delaysL;rw[<-g]
   rfl
  |succ d ih=>
   intro k g;have m:=f.par (k+1) (by omega) (by omega);have a:=qmJ (w:=gt b.Ac i) (ld:=loadsL b i) (k:=k);have s:(dlL (gt b.Ac i) (loadsL b i) k++List.replicate ((gt b.Ac i).Ak.length-(k+1)) 0).length=(gt b.Ac i).Ak.length:=by rw[jg,jP,a];omega
   refine Ev.succ ?_;simp only[qbR,jP,ql (show k+1<(loadsL b i).length by omega),cond_true,qaA (show k+1<(gt b.Ac i).Ak.length by omega),jd,qdV m.1 (show at0 (gt b.Ac i).Ak (k+1)<((dlL (gt b.Ac i) (loadsL b i) k++List.replicate ((gt b.Ac i).Ak.length-(k+1)) 0).length:Int) by omega),
    qaA (show k+1<(gt b.Ac i).Bt.length by omega),qD (show k+1<(loadsL b i).length by omega),qD (show k+1<(dlL (gt b.Ac i) (loadsL b i) k++List.replicate ((gt b.Ac i).Ak.length-(k+1)) 0).length by omega),qha (show k+1<9223372036854775807 by omega)]
   rw[qua (by omega) m.2 m.1];exact ih (k+1) (by omega)
 unfold qeN;rw[qD hi];simp only[jd];refine Ev.bind (qmy h hi) ?_;rw[l];simp only[jd];have:=c ((gt b.Ac i).Ak.length-1) 0 (by omega);have e0:dlL (gt b.Ac i) (loadsL b i) 0++List.replicate ((gt b.Ac i).Ak.length-(0+1)) 0=List.replicate (loadsL b i).length 0:=by
  rw[p];show[(0:Int)]++_=_;rw[show(gt b.Ac i).Ak.length=((gt b.Ac i).Ak.length-(0+1))+1 by omega,List.replicate_succ]
  rfl
 rw[e0] at this;exact Ev.bind this .done
theorem qoG{b:qe}(h:blockB b=true){i:Nat}(hi:i<b.Ac.length):Ev (fun n=>qei n b (i:Int)) (exactL b i):=by
 have d:=qbE h hi;have l:(gt b.Ac i).Bc.length<=78:=by rw[d.snk];exact qgY h
 have k:=qlo h hi;have f:Ev (fun n=>qa6 (delaysL b i) (gt b.Ac i) n ([]:List Int) 0) (exactL b i,((gt b.Ac i).Bc.length:Int)):=by
  refine loopF (Lf:=qa6 (delaysL b i) (gt b.Ac i)) (S:=fun j=>((gt b.Ac i).Bc.take j).map fun s=>gt (delaysL b i) s.toNat) (len:=(gt b.Ac i).Bc.length) (fun n=>?_) (fun j a X g=>?_)
  ·simp only[qa6,qn (je _),cond_false,jK];rfl
  ·have c:=d.sin j a;simp only[qa6,ql a,cond_true,qaA a,jd,qdV c.1 (show at0 (gt b.Ac i).Bc j<((delaysL b i).length:Int) by omega),wS j];rw[qbP (by rw[jp,Je,ji];omega)];have:((gt b.Ac i).Bc.take j).map (fun s=>gt (delaysL b i) s.toNat)++[gt (delaysL b i) (at0 (gt b.Ac i).Bc j).toNat]=((gt b.Ac i).Bc.take (j+1)).map fun s=>gt (delaysL b i) s.toNat:=by
    rw[jD a,jJ,qk9 a];rfl
   rw[this];exact g
 unfold qei;refine Ev.bind (qo7 h hi) ?_;rw[qD hi];simp only[jd];exact Ev.bind f .done
theorem qqu{b:qe}(h:blockB b=true){i:Nat}(hi:i<b.Ac.length):∀k,k<(gt b.Ac i).Ak.length->∀m,m<=k->0<=gt (dlL (gt b.Ac i) (loadsL b i) k) m/\gt (dlL (gt b.Ac i) (loadsL b i) k) m<=43000000*k:=by
 have l:=qbE h hi;have t:=l.hi;have r:=l.res;intro k
 induction k with
 |zero=>
  intro _ m u;have f:m=0:=by omega
  subst f;exact⟨jT _,jT _⟩
 |succ k ih=>
  intro o m u;have c:=qmJ (w:=gt b.Ac i) (ld:=loadsL b i) (k:=k);unfold dlL;rw[qkl];split
  ·have:=ih (by omega) m (by omega);omega
  ·have g:m=k+1:=by omega
   subst g;rw[c,Nat.sub_self];show 0<=W64 _/\W64 _<=_;have p:=l.par (k+1) (by omega) o;obtain⟨a,s⟩:∃a:Nat,at0 (gt b.Ac i).Ak (k+1)=(a:Int):=⟨_,qgT p.1⟩;rw[s] at p⊢;rw[ju];have v:=ih (by omega) a (by omega);have n:=(qnK h hi).2 (k+1) (by omega);have d:=qrJ h hi o;have x:at0 (gt b.Ac i).Bt (k+1)*gt (loadsL b i) (k+1)<=1000*43000:=Ja n.2 d.2 d.1 (by omega);have y:0<=at0 (gt b.Ac i).Bt (k+1)*gt (loadsL b i) (k+1):=jS n.1 d.1;rw[wO (at0 (gt b.Ac i).Bt (k+1)*gt (loadsL b i) (k+1)),qT (by omega) (by omega)];omega
theorem qme{b:qe}(h:blockB b=true){i:Nat}(hi:i<b.Ac.length){j:Nat}(a:j<(gt b.Ac i).Bc.length):0<=gt (exactL b i) j/\gt (exactL b i) j<=344000000:=by
 have c:=qbE h hi;have d:=c.hi;have f:=c.sin j a;have e:gt (exactL b i) j=gt (delaysL b i) (at0 (gt b.Ac i).Bc j).toNat:=by
  unfold exactL;rw[qdA (by rw[jp];exact a),List.getElem_map,qk9 a]
 rw[e];have:=qqu h hi ((gt b.Ac i).Ak.length-1) (by omega) (at0 (gt b.Ac i).Bc j).toNat (by omega);show 0<=gt (dlL _ _ _) _/\gt (dlL _ _ _) _<=_;omega

def pre{α:Type}(f:Nat->α)(j:Nat):List α:=(List.range j).map f
theorem qhm{α:Type}{f:Nat->α}{j:Nat}:(pre f j).length=j:=by simp[pre]
theorem qta{α:Type}{f:Nat->α}{j:Nat}:pre f j++[f j]=pre f (j+1):=by unfold pre;rw[List.range_succ,jJ];rfl
theorem qmS{α:Type}{f:Nat->α}{j:Nat}(h:j<=1048576):appS (pre f j) [f j]=V (pre f (j+1)):=by
 rw[qbP (by rw[qhm,ji];omega),qta]
theorem qrq{α:Type}[Inhabited α]{f:Nat->α}{n j:Nat}(h:j<n):gt (pre f n) j=f j:=qow h
theorem qhU{α:Type}[Inhabited α]{f:Nat->α}{n j:Nat}(h:j<n):idx (pre f n) (j:Int)=V (f j):=by rw[qD (by rw[qhm];exact h),qrq h]
theorem qe1{α:Type}{f g:Nat->α}{n:Nat}(h:∀k,k<n->f k=g k):pre f n=pre g n:=List.map_congr_left fun k a=>h k (List.mem_range.1 a)
theorem qlP{α:Type}{f:Nat->α}{n k:Nat}{v:α}:setS (pre f n) (k:Int) v=pre (fun i=>if i=k then v else f i) n:=by
 unfold setS pre;rw[ju];refine Jb (by simp) fun i a b=>?_;rw[List.getElem_set];by_cases h:k=i
 ·subst h;simp
 ·rw[if_neg h];simp[show ¬ i=k from fun e=>h e.symm]
def fm{α:Type}(f:Nat->List α)(j:Nat):List α:=(List.range j).flatMap f
theorem qi5{α:Type}{f:Nat->List α}{j:Nat}:fm f (j+1)=fm f j++f j:=by unfold fm;rw[List.range_succ,List.flatMap_append];simp
theorem qno{α:Type}{f:Nat->List α}{j c:Nat}(h:∀i,i<j->(f i).length<=c):(fm f j).length<=c*j:=by
 induction j with
 |zero=>exact je _
 |succ j ih=>rw[qi5,jg];have:=ih (fun i hi=>h i (by omega));have:=h j (by omega);rw[Nat.mul_succ];omega
def transL(a:qak):List qab:=
 bif (a.Ar==2) then[⟨0,0⟩,⟨0,1⟩] else bif (a.Ar==3) then[⟨1,0⟩,⟨1,1⟩] else bif (a.Ar != 1) then[] else
 bif (a.Bm==1) then[⟨0,0⟩,⟨1,1⟩] else bif (a.Bm==2) then[⟨0,1⟩,⟨1,0⟩] else[⟨0,0⟩,⟨0,1⟩,⟨1,0⟩,⟨1,1⟩]
theorem qsG{a:qak}{n:Nat}:qfb n a=V (transL a):=by
 unfold qfb transL;cases (a.Ar==2)
 ·cases (a.Ar==3)
  ·cases (a.Ar != 1)
   ·cases (a.Bm==1)
    ·cases (a.Bm==2)<;>rfl
    ·rfl
   ·rfl
  ·rfl
 ·rfl
theorem qoX{a:qak}:(transL a).length<=4:=by
 unfold transL;cases (a.Ar==2)
 ·cases (a.Ar==3)
  ·cases (a.Ar != 1)
   ·cases (a.Bm==1)
    ·cases (a.Bm==2)<;>simp
    ·simp
   ·simp
  ·simp
 ·simp
def b01(x:Int):Prop:=x=0\/x=1
theorem qps{a:qak}{t:qab}(h:t∈transL a):b01 t.e0/\b01 t.e1:=by
 have b:∀t∈[(⟨0,0⟩:qab),⟨0,1⟩,⟨1,0⟩,⟨1,1⟩],b01 t.e0/\b01 t.e1:=by
  intro t c;simp only[jI,jz,or_false] at c;rcases c with rfl|rfl|rfl|rfl<;>simp[b01]
 refine b t ?_;unfold transL at h;revert h;cases (a.Ar==2)
 ·cases (a.Ar==3)
  ·cases (a.Ar != 1)
   ·cases (a.Bm==1)
    ·cases (a.Bm==2)
     ·exact fun h=>h
     ·intro h;simp at h;rcases h with rfl|rfl<;>simp
    ·intro h;simp at h;rcases h with rfl|rfl<;>simp
   ·intro h;simp at h
  ·intro h;simp at h;rcases h with rfl|rfl<;>simp
 ·intro h;simp at h;rcases h with rfl|rfl<;>simp
def al1(first:Int)(k:Nat)(a:qak)(t:qab):qu:=⟨2*(first+a.Bb)+t.e0,2*(first+a.To)+t.e1,1,(k:Int)⟩
def arcLs(first:Int)(k:Nat)(a:qak):List qu:=(transL a).map (al1 first k a)
def cellLs(c:qA)(first:Int)(j:Nat):List qu:=fm (fun k=>arcLs first k (gt c.Ap k)) j
def instLs(b:qe)(j:Nat):List qu:=fm (fun i=>cellLs (cellAt b (i:Int)) (off b.Aa i:Int) (cellAt b (i:Int)).Ap.length) j
theorem qne{first:Int}{k:Nat}{a:qak}:(arcLs first k a).length<=4:=by unfold arcLs;rw[jp];exact qoX
theorem qqa{b:qe}(h:blockB b=true){i:Nat}(hi:i<b.Aa.Ab.length):Ev (fun n=>qe6 n b (gt b.Aa.Ab i) (off b.Aa i:Int)) (cellLs (cellAt b (i:Int)) (off b.Aa i:Int) (cellAt b (i:Int)).Ap.length):=by
 have u:=qao h;have D:=qY u;obtain⟨⟨z,c1⟩,r,g⟩:=qgo u hi;have B:=qie g;have s:=(qfo (qgO g)).1;have v:off b.Aa i<=78:=by
  have:=qaY D;rw[qfR] at this;have:=qpR (d:=b.Aa) (show i<=b.Aa.Ab.length by omega);omega
 show Ev _ (cellLs (gt b.Ah.Aj (gt b.Aa.Ab i).Bn.toNat) (off b.Aa i:Int) (gt b.Ah.Aj (gt b.Aa.Ab i).Bn.toNat).Ap.length);generalize hc:gt b.Ah.Aj (gt b.Aa.Ab i).Bn.toNat=c at r g B s⊢;have A:Ev (fun n=>qbv (off b.Aa i:Int) c n ([]:List qu) 0) (cellLs c (off b.Aa i:Int) c.Ap.length,(c.Ap.length:Int)):=by
  refine loopF (Lf:=qbv (off b.Aa i:Int) c) (S:=cellLs c (off b.Aa i:Int)) (len:=c.Ap.length) (fun n=>?_) (fun j p X o=>?_)
  ·simp only[qbv,qn (je _),cond_false]
  ·have H:=qhE g p;have C:(cellLs c (off b.Aa i:Int) j).length<=4*j:=qno fun _ _=>qne;simp only[qbv,ql p,cond_true,qD p,jd,qsG,wS j];have m:Ev (fun n=>qbq (off b.Aa i:Int) (j:Int) (gt c.Ap j) (transL (gt c.Ap j)) n (cellLs c (off b.Aa i:Int) j) 0) (cellLs c (off b.Aa i:Int) (j+1),((transL (gt c.Ap j)).length:Int)):=by
    have F:=qoX (a:=gt c.Ap j);have:=loopF (Lf:=qbq (off b.Aa i:Int) (j:Int) (gt c.Ap j) (transL (gt c.Ap j))) (S:=fun k=>cellLs c (off b.Aa i:Int) j++((transL (gt c.Ap j)).take k).map (al1 (off b.Aa i:Int) j (gt c.Ap j))) (len:=(transL (gt c.Ap j)).length) (fin:=(cellLs c (off b.Aa i:Int) (j+1),((transL (gt c.Ap j)).length:Int))) (fun n=>by
      simp only[qbq,qn (je _),cond_false,jK];show V (cellLs c _ j++arcLs _ j _,_)=V (fm _ (j+1),_);rw[qi5];rfl)
     (fun k f X o=>by
      have y:=qps (a:=gt c.Ap j) (t:=gt (transL (gt c.Ap j)) k) (by rw[qdA f];exact jo f);have e0:W64 (W64 (2*W64 ((off b.Aa i:Int)+(gt c.Ap j).Bb))+(gt (transL (gt c.Ap j)) k).e0)=2*((off b.Aa i:Int)+(gt c.Ap j).Bb)+(gt (transL (gt c.Ap j)) k).e0:=by
       rcases y.1 with e|e<;>rw[e,wO ((off b.Aa i:Int)+(gt c.Ap j).Bb),qT (x:=2*((off b.Aa i:Int)+(gt c.Ap j).Bb)) (by omega) (by omega),qT (by omega) (by omega)]
      have e1:W64 (W64 (2*W64 ((off b.Aa i:Int)+(gt c.Ap j).To))+(gt (transL (gt c.Ap j)) k).e1)=2*((off b.Aa i:Int)+(gt c.Ap j).To)+(gt (transL (gt c.Ap j)) k).e1:=by
       rcases y.2 with e|e<;>rw[e,wO ((off b.Aa i:Int)+(gt c.Ap j).To),qT (x:=2*((off b.Aa i:Int)+(gt c.Ap j).To)) (by omega) (by omega),qT (by omega) (by omega)]
      simp only[qbq,ql f,cond_true,qD f,jd,e0,e1,wS k];rw[qbP (by rw[jg,jp,Je,ji];omega),jt];have:((transL (gt c.Ap j)).take k).map (al1 (off b.Aa i:Int) j (gt c.Ap j))++[al1 (off b.Aa i:Int) j (gt c.Ap j) (gt (transL (gt c.Ap j)) k)]=((transL (gt c.Ap j)).take (k+1)).map (al1 (off b.Aa i:Int) j (gt c.Ap j)):=qgd f;have l:((transL (gt c.Ap j)).take k).map (al1 (off b.Aa i:Int) j (gt c.Ap j))++[(⟨2*((off b.Aa i:Int)+(gt c.Ap j).Bb)+(gt (transL (gt c.Ap j)) k).e0,2*((off b.Aa i:Int)+(gt c.Ap j).To)+(gt (transL (gt c.Ap j)) k).e1,1,(j:Int)⟩:qu)]=((transL (gt c.Ap j)).take (k+1)).map (al1 (off b.Aa i:Int) j (gt c.Ap j)):=this;rw[l];exact o)
    simpa using this
   exact Ev.bind m o
 unfold qe6;rw[qdV z c1,hc];simp only[jd];exact Ev.bind A .done
def dvN(d:qh)(k:Nat):Nat:=((List.range (places d).length).find? fun j=>drvQ d (k:Int) j).getD 0
theorem qiD{l:qr}{d:qh}(h:designB l d=true){k:Nat}(f:k<d.Ai.length):dvN d k<(places d).length/\drvQ d (k:Int) (dvN d k)=true:=by
 obtain⟨j,b,c,a⟩:=qvC h (k:=(k:Int)) (by omega) (by omega);unfold dvN;cases hf:(List.range (places d).length).find? fun j=>drvQ d (k:Int) j with
 |none=>
  have:=List.find?_eq_none.1 hf j (List.mem_range.2 b);exact absurd (by unfold drvQ;rw[c,a];simp) this
 |some i=>exact⟨List.mem_range.1 (List.mem_of_find?_eq_some hf),by have:=List.find?_some hf;exact this⟩
theorem qmM{d:qh}{k:Int}{j:Nat}:drvQ d k j=true↔(gt (places d) j).net=k/\(gt (places d) j).drives=true:=by unfold drvQ;simp
theorem qtP{l:qr}{d:qh}(h:designB l d=true){k:Nat}(m:k<d.Ai.length){j:Nat}(i:j<(places d).length)(n:(gt (places d) j).net=(k:Int))(g:(gt (places d) j).drives=true):dvN d k=j:=by
 obtain⟨a,b⟩:=qiD h m;obtain⟨c,f⟩:=qmM.1 b;exact qqG h a i (by rw[c,n]) f g
def wl1(a:Nat)(s:Int)(k:Nat):List qu:=[⟨2*(a:Int),2*s,2,(k:Int)⟩,⟨2*(a:Int)+1,2*s+1,2,(k:Int)⟩]
def wlN(b:qe)(i j:Nat):List qu:=fm (fun k=>wl1 (dvN b.Aa i) (at0 (skL b i) k) k) j
def wireLs(b:qe)(j:Nat):List qu:=fm (fun i=>wlN b i (skL b i).length) j
def linksL(b:qe):List qu:=instLs b b.Aa.Ab.length++wireLs b b.Ac.length
def load0(b:qe)(i:Nat):Int:=gt (loadsL b i) 0
def viewE(b:qe)(ex:List Int):Tview:=⟨b,places b.Aa,linksL b,pre (load0 b) b.Ac.length,pre (exactL b) b.Ac.length,ex⟩
def viewV(b:qe):Tview:=viewE b []
theorem qim{b:qe}(h:blockB b=true){j:Nat}(d:j<=b.Aa.Ab.length):(instLs b j).length<=32*j:=by
 refine qno fun i hi=>?_;obtain⟨_,_,a⟩:=qgo (qao h) (show i<b.Aa.Ab.length by omega);have c:=qie a;have:(cellLs (cellAt b (i:Int)) (off b.Aa i:Int) (cellAt b (i:Int)).Ap.length).length<=4*(cellAt b (i:Int)).Ap.length:=qno fun _ _=>qne;have e:(cellAt b (i:Int)).Ap.length<=8:=c;omega
theorem qqe{b:qe}{i j:Nat}:(wlN b i j).length<=2*j:=qno fun _ _=>je _
theorem qmm{b:qe}(h:blockB b=true){j:Nat}:(wireLs b j).length<=156*j:=by
 refine qno fun i _=>?_;have:=qqe (b:=b) (i:=i) (j:=(skL b i).length);have:=qgY h (i:=i);omega
theorem qkp{b:qe}(h:blockB b=true):(linksL b).length<=10000:=by
 have a:=qY (qao h);have c:=a.ni;have d:=a.nn;have f:=qkK h;have g:=qim h (je _);have i:=qmm h (j:=b.Ac.length);unfold linksL;rw[jg];omega
theorem qol{b:qe}(h:blockB b=true):Ev (fun n=>qi4 n b) (V (viewV b)):=by
 have r:=qao h;have z:=qY r;have R:=qaY z;have Y:=z.ni;have a3:=z.nn;have hwl:=qkK h;have e1:Ev (fun n=>qd2 b n ([]:List qu) 0 0) (instLs b b.Aa.Ab.length,(off b.Aa b.Aa.Ab.length:Int),(b.Aa.Ab.length:Int)):=by
  have:=loopF (τ:=List qu×Int) (Lf:=fun n t j=>qd2 b n t.1 t.2 j) (S:=fun j=>(instLs b j,(off b.Aa j:Int))) (len:=b.Aa.Ab.length) (fin:=(instLs b b.Aa.Ab.length,(off b.Aa b.Aa.Ab.length:Int),(b.Aa.Ab.length:Int))) (fun n=>by simp only[qd2,qn (je _),cond_false])
   (fun j a X m=>by
    have F:=qim h (show j<=b.Aa.Ab.length by omega);have M:=qim h (show j+1<=b.Aa.Ab.length by omega);have N:=qix (d:=b.Aa) (i:=j);have a4:off b.Aa (j+1)<=78:=by
     rw[qfR] at R;have:=qpR (d:=b.Aa) (show j+1<=b.Aa.Ab.length by omega);omega
    simp only[qd2,ql a,cond_true,qD a,jd,qaO,wS j];refine Ev.bind (qqa h a) ?_;have e:instLs b j++cellLs (cellAt b (j:Int)) (off b.Aa j:Int) (cellAt b (j:Int)).Ap.length=instLs b (j+1):=qi5.symm;rw[qbP (by rw[<-jg,e];omega),e,qT (by omega) (by omega),show(off b.Aa j:Int)+((gt b.Aa.Ab j).Ai.length:Int)=((off b.Aa (j+1):Nat):Int) by omega];exact m)
  exact this
 have I:mkS (b.Ac.length:Int) (0:Int)=V (vecI (fun _=>0) b.Ac.length):=qpk (by omega);have J:mkS (b.Ac.length:Int) ([]:List Int)=V (pre (fun _=>[]) b.Ac.length):=by
  rw[qko (by omega)]
  congr 1
  refine Jb (by simp[pre]) fun i u h2=>?_;simp[pre]
 have P:Ev (fun n=>qdj (places b.Aa) n (pre (fun _=>[]) b.Ac.length) (vecI (fun _=>0) b.Ac.length) 0) (pre (fun i=>skL b i) b.Ac.length,vecI (fun k=>(dvN b.Aa k:Int)) b.Ac.length,((places b.Aa).length:Int)):=by
  have v:∀k,k<b.Ac.length->dvN b.Aa k<(places b.Aa).length:=fun k o=>(qiD r (by omega)).1;have:=loopF (τ:=List (List Int)×List Int) (Lf:=fun n t j=>qdj (places b.Aa) n t.1 t.2 j) (S:=fun j=>(pre (fun i=>sinksL b.Aa (i:Int) j) b.Ac.length,vecI (fun k=>if dvN b.Aa k<j then(dvN b.Aa k:Int) else 0) b.Ac.length)) (len:=(places b.Aa).length)
   (fin:=(pre (fun i=>skL b i) b.Ac.length,vecI (fun k=>(dvN b.Aa k:Int)) b.Ac.length,((places b.Aa).length:Int))) (fun n=>by
    simp only[qdj,qn (je _),cond_false];rw[qfn (g:=fun k=>(dvN b.Aa k:Int)) (fun k o=>if_pos (v k o))]
    rfl)
   (fun j a X m=>by
    obtain⟨n0,n1⟩:=qkO r a;obtain⟨l,p⟩:∃l:Nat,(gt (places b.Aa) j).net=(l:Int):=⟨_,qgT n0⟩;have x:l<b.Ac.length:=by omega
    simp only[qdj,ql a,cond_true,qD a,jd,p,wS j,qlH x,qhU (f:=fun i=>sinksL b.Aa (i:Int) j) x];cases hdr:(gt (places b.Aa) j).drives
    ·have A:pre (fun i=>sinksL b.Aa (i:Int) (j+1)) b.Ac.length=setS (pre (fun i=>sinksL b.Aa (i:Int) j) b.Ac.length) (l:Int) (sinksL b.Aa (l:Int) j++[(j:Int)]):=by
      rw[qlP];refine qe1 fun k o=>?_;rw[qiF];unfold snkQ;rw[p,hdr];by_cases c:k=l
      ·subst c;rw[if_pos Z];simp
      ·rw[if_neg c,show(((l:Int)==(k:Int))&&!false)=false by simp;omega];simp
     have B:vecI (fun k=>if dvN b.Aa k<j+1 then(dvN b.Aa k:Int) else 0) b.Ac.length=vecI (fun k=>if dvN b.Aa k<j then(dvN b.Aa k:Int) else 0) b.Ac.length:=by
      refine qfn fun k o=>?_;have K:dvN b.Aa k≠j:=fun e=>by
       have:=(qmM.1 (qiD r (k:=k) (by omega)).2).2;rw[e,hdr] at this;cases this
      by_cases u:dvN b.Aa k<j
      ·rw[if_pos u,if_pos (by omega)]
      ·rw[if_neg u,if_neg (by omega)]
     rw[A,B] at m;simp only[cond_false];have a7:(sinksL b.Aa (l:Int) j).length<=j:=by rw[qif];exact qf0
     rw[qbP (by rw[ji];omega)];exact m
    ·have A:pre (fun i=>sinksL b.Aa (i:Int) (j+1)) b.Ac.length=pre (fun i=>sinksL b.Aa (i:Int) j) b.Ac.length:=by
      refine qe1 fun k o=>?_;rw[qiF];unfold snkQ;rw[hdr];simp
     have H:=qtP r (show l<b.Aa.Ai.length by omega) a p hdr;have B:vecI (fun k=>if dvN b.Aa k<j+1 then(dvN b.Aa k:Int) else 0) b.Ac.length=setS (vecI (fun k=>if dvN b.Aa k<j then(dvN b.Aa k:Int) else 0) b.Ac.length) (l:Int) (j:Int):=by
      rw[qon];refine qfn fun k o=>?_;by_cases c:k=l
      ·subst c;rw[if_pos Z,H,if_pos (by omega)]
      ·rw[if_neg c];have K:dvN b.Aa k≠j:=fun e=>by
        have:=(qmM.1 (qiD r (k:=k) (by omega)).2).1;rw[e,p] at this;omega
       by_cases u:dvN b.Aa k<j
       ·rw[if_pos u,if_pos (by omega)]
       ·rw[if_neg u,if_neg (by omega)]
     rw[A,B] at m;exact m)
  simpa [sinksL,pre,vecI] using this
 have D:∀(i k:Nat) (s:Int) (t:List qu),i<b.Ac.length->0<=s->s<=78->t.length<=1000000->Ev (fun n=>qd8 (vecI (fun k=>(dvN b.Aa k:Int)) b.Ac.length) (i:Int) (k:Int) s n t 0) (t++wl1 (dvN b.Aa i) s k,2):=by
  intro i k s t hi a5 a6 ht;have v:=(qiD r (k:=i) (by omega)).1;have L:idx (vecI (fun k=>(dvN b.Aa k:Int)) b.Ac.length) (i:Int)=V (dvN b.Aa i:Int):=qlH hi;refine Ev.succ ?_;simp only[qd8,L,jd];refine Ev.tt Z ?_;rw[wO (2*(dvN b.Aa i:Int)),wO (2*s),wO (2*(dvN b.Aa i:Int)+0),wO (2*s+0),qbP (by rw[ji];omega)];simp only[jd];refine Ev.succ ?_;simp only[qd8,L,jd];refine Ev.tt Z ?_;rw[show W64 (0+1)=1 from rfl,wO (2*(dvN b.Aa i:Int)),wO (2*s),wO (2*(dvN b.Aa i:Int)+1),wO (2*s+1),qbP (by rw[jg,ji,ji];omega)];simp only[jd];refine Ev.succ ?_;simp only[qd8];refine Ev.ff Z (Ev.now ?_);unfold wl1;rw[jt,Int.add_zero,Int.add_zero]
  rfl
 have C:∀(i:Nat) (t:List qu),i<b.Ac.length->t.length<=900000->Ev (fun n=>qdS (vecI (fun k=>(dvN b.Aa k:Int)) b.Ac.length) (i:Int) (skL b i) n t 0) (t++wlN b i (skL b i).length,((skL b i).length:Int)):=by
  intro i t hi ht;have a8:=qgY h (i:=i);have:=loopF (Lf:=qdS (vecI (fun k=>(dvN b.Aa k:Int)) b.Ac.length) (i:Int) (skL b i)) (S:=fun k=>t++wlN b i k) (len:=(skL b i).length) (fin:=(t++wlN b i (skL b i).length,((skL b i).length:Int))) (fun n=>by simp only[qdS,qn (je _),cond_false])
   (fun k o X m=>by
    obtain⟨y,L,ey,_⟩:=qm4 o;have hwn:=qqe (b:=b) (i:=i) (j:=k);simp only[qdS,ql o,cond_true,qaA o,jd,wS k];refine Ev.bind (D i k (at0 (skL b i) k) (t++wlN b i k) hi (by omega) (by omega) (by rw[jg];omega)) ?_;rw[jt,show wlN b i k++wl1 (dvN b.Aa i) (at0 (skL b i) k) k=wlN b i (k+1) from qi5.symm];exact m)
  simpa [wlN,fm] using this
 have Q:Ev (fun n=>qdY b (pre (fun i=>skL b i) b.Ac.length) (vecI (fun k=>(dvN b.Aa k:Int)) b.Ac.length) n ([]:List (List Int)) ([]:List Int) (instLs b b.Aa.Ab.length) 0) (pre (exactL b) b.Ac.length,pre (load0 b) b.Ac.length,linksL b,(b.Ac.length:Int)):=by
  have F:=qim h (je _);have:=loopF (τ:=List (List Int)×List Int×List qu) (Lf:=fun n t j=>qdY b (pre (fun i=>skL b i) b.Ac.length) (vecI (fun k=>(dvN b.Aa k:Int)) b.Ac.length) n t.1 t.2.1 t.2.2 j) (S:=fun j=>(pre (exactL b) j,pre (load0 b) j,instLs b b.Aa.Ab.length++wireLs b j)) (len:=b.Ac.length)
   (fin:=(pre (exactL b) b.Ac.length,pre (load0 b) b.Ac.length,linksL b,(b.Ac.length:Int))) (fun n=>by simp only[qdY,qn (je _),cond_false];rfl)
   (fun j a X m=>by
    have hw:=qbE h a;have W:=hw.lo;have T:=qkI h a;have O:=qmm h (j:=j);simp only[qdY,ql a,cond_true,wS j];refine Ev.bind (qmy h a) ?_;rw[show idx (loadsL b j) (0:Int)=V (load0 b j) from qD (j:=0) (by omega)];simp only[jd];rw[qmS (by omega)];simp only[jd];refine Ev.bind (qoG h a) ?_;rw[qmS (by omega),qhU (f:=fun i=>skL b i) a];simp only[jd];refine Ev.bind (C j _ a (by rw[jg];omega)) ?_;rw[jt,show wireLs b j++wlN b j (skL b j).length=wireLs b (j+1) from qi5.symm];exact m)
  simpa [wireLs,fm,pre] using this
 unfold qi4;refine Ev.bind (qlS z) (Ev.bind e1 ?_);rw[I,J];simp only[jd];exact Ev.bind P (Ev.bind Q .done)

structure LkOk(ls:List qu)(M:Nat):Prop where
 len:ls.length<=10000
 nodes:M<=156
 fr0:∀x,x<ls.length->0<=(gt ls x).Bb
 fr1:∀x,x<ls.length->(gt ls x).Bb<(M:Int)
 to0:∀x,x<ls.length->0<=(gt ls x).To
 to1:∀x,x<ls.length->(gt ls x).To<(M:Int)
def frL(ls:List qu)(x:Nat):Int:=(gt ls x).Bb
def toL(ls:List qu)(x:Nat):Int:=(gt ls x).To
def lvL(lv:List Bool)(x:Nat):Bool:=gt lv x
abbrev inL(ls:List qu)(lv:List Bool)(j:Nat)(R:List Nat)(k:Nat):Nat:=inN j (frL ls) (toL ls) (lvL lv) R k
abbrev nxtL(ls:List qu)(lv:List Bool)(M:Nat)(R:List Nat):Option Nat:=nxtN ls.length (frL ls) (toL ls) (lvL lv) M R
abbrev ordL(ls:List qu)(lv:List Bool)(M m:Nat)(R:List Nat):Option (List Nat):=ordN ls.length (frL ls) (toL ls) (lvL lv) M m R
def ordR(ls:List qu)(lv:List Bool)(M:Nat):List Int×Bool:=match ordL ls lv M M [] with|some R=>(ints R,true)|none=>([],false)
theorem qss{ls:List qu}{lv:List Bool}{M m:Nat}{R:List Nat}(h:nxtL ls lv M R=U):ordL ls lv M (m+1) R=U:=by
 show(match nxtL ls lv M R with|none=>U|some k=>ordL ls lv M m (R++[k]))=U;rw[h]
theorem qsg{ls:List qu}{lv:List Bool}{M m k:Nat}{R:List Nat}(h:nxtL ls lv M R=V k):ordL ls lv M (m+1) R=ordL ls lv M m (R++[k]):=by
 show(match nxtL ls lv M R with|none=>U|some k=>ordL ls lv M m (R++[k]))=_;rw[h]
theorem qm2{M:Nat}{v:Bool}(h:M<=2147483648):mkS (M:Int) v=V (pre (fun _=>v) M):=by
 rw[qko h]
 congr 1
 refine Jb (by simp[pre]) fun i a b=>?_;simp[pre]
theorem qvH{L:Nat}{fr to:Nat->Int}{lv:Nat->Bool}{R:List Nat}{k:Nat}:inN L fr to lv R k<=L:=qf0
theorem qqO{L:Nat}{fr to:Nat->Int}{lv:Nat->Bool}{R:List Nat}{k:Nat}:inN (L+1) fr to lv R k=inN L fr to lv R k+(bif lv L&&(to L==(k:Int)&&!decide (fr L∈ints R)) then 1 else 0):=rfl
def ledB(ls:List qu)(lv:List Bool)(j:Nat)(R:List Nat)(M:Nat):List Bool:=pre (fun k=>!decide (inL ls lv j R k=0)) M
def inB(R:List Nat)(M:Nat):List Bool:=pre (fun k=>decide (k∈R)) M
theorem quV{ls:List qu}{lv:List Bool}{M:Nat}(h:LkOk ls M)(A:lv.length=ls.length){R:List Nat} :
  Ev (fun n=>qcN ls lv (inB R M) n (pre (fun _=>false) M) 0) (ledB ls lv ls.length R M,(ls.length:Int)):=by
 have x:=h.len;refine loopF (Lf:=qcN ls lv (inB R M)) (S:=fun j=>ledB ls lv j R M) (len:=ls.length) (fun n=>?_) (fun j l X i=>?_)
 ·simp only[qcN,qn (je _),cond_false]
 ·obtain⟨a,u⟩:∃a:Nat,(gt ls j).Bb=(a:Int):=⟨_,qgT (h.fr0 j l)⟩;obtain⟨c,v⟩:∃c:Nat,(gt ls j).To=(c:Int):=⟨_,qgT (h.to0 j l)⟩;have p:a<M:=by have:=h.fr1 j l;omega
  have r:c<M:=by have:=h.to1 j l;omega
  have s:frL ls j=(a:Int):=u;have o:toL ls j=(c:Int):=v;have b:decide (frL ls j∈ints R)=decide (a∈R):=by rw[s];exact decide_eq_decide.2 qlp
  have y:idx (inB R M) (a:Int)=V (decide (a∈R)):=qhU (f:=fun k=>decide (k∈R)) p;have z:idx (ledB ls lv j R M) (c:Int)=V (!decide (inL ls lv j R c=0)):=qhU (f:=fun k=>!decide (inL ls lv j R k=0)) r;have t:(lvL lv j&&!decide (a∈R))=true->ledB ls lv (j+1) R M=setS (ledB ls lv j R M) (c:Int) true:=by
   intro g;unfold ledB;rw[qlP];refine qe1 fun k _=>?_;show(!decide (inN (j+1) _ _ _ R k=0))=_;rw[qqO,o,b];by_cases m:k=c
   ·subst m;rw[if_pos Z];simp only[jf] at g;simp[g.1,g.2]
   ·rw[if_neg m,show((c:Int)==(k:Int))=false by simp;omega];simp
  have d:(lvL lv j&&!decide (a∈R))=false->ledB ls lv (j+1) R M=ledB ls lv j R M:=by
   intro g;unfold ledB;refine qe1 fun k _=>?_;show(!decide (inN (j+1) _ _ _ R k=0))=_;rw[qqO,o,b,show(lvL lv j&&(((c:Int)==(k:Int))&&!decide (a∈R)))=false by
    cases h1:lvL lv j
    ·rfl
    ·rw[h1] at g;simp only[jF] at g;rw[g];simp]
   simp
  simp only[qcN,ql l,cond_true,qD (show j<lv.length by omega),qD l,jd,u,v,y,z,wS j];cases h1:gt lv j
  ·simp only[cond_false,jd];have:=d (by unfold lvL;rw[h1];rfl);rw[this] at i;exact i
  ·simp only[cond_true,jd];cases h2:decide (a∈R)
   ·simp only[Bool.not_false,cond_true];have:=t (by unfold lvL;rw[h1,h2];rfl);rw[this] at i;exact i
   ·simp only[jV,cond_false];have:=d (by unfold lvL;rw[h1,h2];rfl);rw[this] at i;exact i
theorem qs2{ls:List qu}{lv:List Bool}{M:Nat}(h:LkOk ls M){R:List Nat} :
  Ev (fun n=>qca (M:Int) (inB R M) (ledB ls lv ls.length R M) n 0) (match nxtL ls lv M R with|some k=>(k:Int)|none=>(M:Int)):=by
 have u:=h.nodes;have b:∀d j,j+d=M->(∀i,i<j->freeN ls.length (frL ls) (toL ls) (lvL lv) R i=false) ->
   Ev (fun n=>qca (M:Int) (inB R M) (ledB ls lv ls.length R M) n (j:Int)) (match nxtL ls lv M R with|some k=>(k:Int)|none=>(M:Int)):=by
  intro d
  induction d with
  |zero=>
   intro j p c;have l:nxtL ls lv M R=U:=by
    show(List.range M).find? _=U;rw[List.find?_eq_none];intro x r;rw[List.mem_range] at r;rw[c x (by omega)];simp
   rw[l];refine Ev.succ ?_;simp only[qca,qn (show M<=j by omega),cond_false];rw[show j=M by omega];exact .done
  |succ d ih=>
   intro j p c;have a:j<M:=by omega
   have s:idx (inB R M) (j:Int)=V (decide (j∈R)):=qhU (f:=fun k=>decide (k∈R)) a;have t:idx (ledB ls lv ls.length R M) (j:Int)=V (!decide (inL ls lv ls.length R j=0)):=qhU (f:=fun k=>!decide (inL ls lv ls.length R k=0)) a;refine Ev.succ ?_;simp only[qca,ql a,cond_true,s,t,jd,wS j];have m:freeN ls.length (frL ls) (toL ls) (lvL lv) R j=false->Ev (fun n=>qca (M:Int) (inB R M) (ledB ls lv ls.length R M) n ((j+1:Nat):Int)) (match nxtL ls lv M R with|some k=>(k:Int)|none=>(M:Int)):=fun o=>
    ih (j+1) (by omega) fun i hi=>by
     by_cases g:i=j
     ·rw[g];exact o
     ·exact c i (by omega)
   cases h1:decide (j∈R)
   ·simp only[cond_false];cases h2:decide (inL ls lv ls.length R j=0)
    ·simp only[Bool.not_false,cond_true];exact m (by unfold freeN;rw[h1];show(!false&&decide (inL ls lv ls.length R j=0))=false;rw[h2];rfl)
    ·simp only[jV,cond_false];have:nxtL ls lv M R=V j:=by
      show(List.range M).find? _=V j;rw[List.find?_range_eq_some];refine⟨?_,List.mem_range.2 a,fun i hi=>by rw[c i hi];rfl⟩;unfold freeN;rw[h1];show(!false&&decide (inL ls lv ls.length R j=0))=true;rw[h2];rfl
     rw[this];exact .done
   ·simp only[cond_true];exact m (by unfold freeN;rw[h1];rfl)
 exact b M 0 (by omega) (fun i hi=>absurd hi (by omega))
theorem qsn{ls:List qu}{lv:List Bool}{M:Nat}(h:LkOk ls M)(g:lv.length=ls.length):Ev (fun n=>qip n (M:Int) ls lv) (ordR ls lv M):=by
 have o:=h.nodes;have b:∀m R,R.length+m=M->Ev (fun n=>qez (M:Int) ls lv n (inB R M) (ints R))
   (match ordL ls lv M m R with|some R'=>.nxt (inB R' M,ints R')|none=>.ret ([],false)):=by
  intro m
  induction m with
  |zero=>
   intro R c;refine Ev.succ ?_;simp only[qez,qcQ,qn (show M<=R.length by omega),cond_false];exact .done
  |succ m ih=>
   intro R c;refine Ev.succ ?_;simp only[qez,qcQ,ql (show R.length<M by omega),cond_true,qm2 (v:=false) (show M<=2147483648 by omega),jd];refine Ev.bind (quV h g) (Ev.bind (qs2 h) ?_);show Ev _ (match (match nxtL ls lv M R with|none=>U|some k=>ordL ls lv M m (R++[k])) with|some R'=>_|none=>_);cases hn:nxtL ls lv M R with
   |none=>
    simp only[beq_self_eq_true,cond_true];exact .done
   |some k=>
    obtain⟨d,_,_⟩:=qnc hn;have l:idx (inB R M) (k:Int)=V (decide (k∈R)):=qhU (f:=fun k=>decide (k∈R)) d;have e1:setS (inB R M) (k:Int) true=inB (R++[k]) M:=by
     unfold inB;rw[qlP];refine qe1 fun i _=>?_;by_cases a:i=k
     ·subst a;simp
     ·simp[a]
    simp only[show((k:Int)==(M:Int))=false by simp;omega,cond_false,l,jd];rw[qbP (by rw[qcQ,ji];omega),e1,<-qil];exact ih (R++[k]) (by rw[jg,ji];omega)
 have e0:pre (fun _=>false) M=inB [] M:=qe1 fun k _=>by simp
 unfold qip;rw[qm2 (v:=false) (show M<=2147483648 by omega)];simp only[jd];rw[e0];refine Ev.bind (b M [] (by simp)) ?_;unfold ordR;cases ordL ls lv M M []<;>exact .done
def grV(ls:List qu)(lv:List Bool)(ps:List Tplace)(b:qe)(lo:List Int)(de:List (List Int))(ex:List Int):Option Tgraph:=V ⟨V ⟨b,ps,ls,lo,de,ex⟩,lv⟩
theorem qp4{xs:List Int}(c:xs.length<=1000000):Ev (fun n=>qg6 n xs 0) (ixL (fun y=>(0:Int)==y) xs):=
 qfK (fin:=(xs.length:Int)) (Lf:=qc7 xs 0) (pf:=fun _ y=>V ((0:Int)==y)) (fun _ _=>.done)
  (fun n=>by simp only[qc7,qn (je _),cond_false])
  (fun n j x a=>by
   have b:=(List.getElem?_eq_some_iff.1 a).1;simp only[qc7,ql b,cond_true,qfL a,jd,wS j])
  (fun n=>by unfold qg6;congr 1;funext o;cases o<;>rfl)
theorem quG{f:Nat->Int}{M:Nat}{p:Int->Bool}:ixL p (vecI f M)=match (List.range M).find? (fun k=>p (f k)) with|some k=>(k:Int)|none=>-1:=by
 cases hf:(List.range M).find? (fun k=>p (f k)) with
 |none=>
  have a:(vecI f M).findIdx? p=U:=by
   rw[List.findIdx?_eq_none_iff];intro x g;obtain⟨k,d,rfl⟩:=List.mem_map.1 g;have:=List.find?_eq_none.1 hf k d;simpa using this
  unfold ixL;rw[a]
 |some k=>
  obtain⟨a,b,c⟩:=List.find?_range_eq_some.1 hf;rw[List.mem_range] at b;have:=qpy (p:=p) (xs:=vecI f M) (j:=k) (by rw[qkd];exact b) (by simpa [vecI] using a) (fun i hi=>by
   have:=c i hi;simpa [vecI] using this)
  rw[this]
section
variable{ls:List qu}{lv:List Bool}{M:Nat}{ps:List Tplace}{b:qe}{lo:List Int}{de:List (List Int)}{ex:List Int}
theorem qqd(h:LkOk ls M)(k:lv.length=ls.length):Ev (fun n=>qbn n (grV ls lv ps b lo de ex)) (ints (selN (lvL lv) ls.length)):=by
 have g:=h.len;have f:Ev (fun n=>qP ⟨V ⟨b,ps,ls,lo,de,ex⟩,lv⟩ ⟨b,ps,ls,lo,de,ex⟩ n ([]:List Int) 0) (ints (selN (lvL lv) ls.length),(ls.length:Int)):=by
  refine qnw (q:=lvL lv) (Lf:=qP ⟨V ⟨b,ps,ls,lo,de,ex⟩,lv⟩ ⟨b,ps,ls,lo,de,ex⟩) (len:=ls.length) (by omega) (Ev.succ ?_) (fun j a t i X c d=>?_)
  ·simp only[qP,qn (je _),cond_false];exact .done
  ·simp only[qP,ql a,cond_true,qD a,qD (show j<lv.length by omega),jd,qhw,i,wS j];cases hq:gt lv j
   ·simp only[cond_false];exact d hq
   ·simp only[cond_true];exact c hq
 unfold qbn grV;simp only[jd];exact Ev.bind f .done
theorem qu2(h:LkOk ls M)(k:lv.length=ls.length){v:Int}:Ev (fun n=>qho n (grV ls lv ps b lo de ex) v) (ints (selN (fun x=>lvL lv x&&(frL ls x==v)) ls.length)):=by
 have g:=h.len;have f:Ev (fun n=>qQ v ⟨V ⟨b,ps,ls,lo,de,ex⟩,lv⟩ ⟨b,ps,ls,lo,de,ex⟩ n ([]:List Int) 0) (ints (selN (fun x=>lvL lv x&&(frL ls x==v)) ls.length),(ls.length:Int)):=by
  refine qnw (q:=fun x=>lvL lv x&&(frL ls x==v)) (Lf:=qQ v ⟨V ⟨b,ps,ls,lo,de,ex⟩,lv⟩ ⟨b,ps,ls,lo,de,ex⟩) (len:=ls.length) (by omega) (Ev.succ ?_) (fun j d t i X c a=>?_)
  ·simp only[qQ,qn (je _),cond_false];exact .done
  ·simp only[qQ,ql d,cond_true,qD d,qD (show j<lv.length by omega),jd,qhO,i,wS j];unfold lvL frL at c a;cases hq:gt lv j
   ·simp only[cond_false];exact a (by rw[hq];rfl)
   ·simp only[cond_true];cases hw:(gt ls j).Bb==v
    ·simp only[cond_false];exact a (by rw[hq,hw];rfl)
    ·simp only[cond_true];exact c (by rw[hq,hw];rfl)
 unfold qho qcs grV;simp only[jd];exact Ev.bind (Ev.bind f .done) .done
theorem qtB{q:Nat->Bool}{m:Nat}{p:Nat->Bool}:(selN q m).countP p=cntP (fun x=>q x&&p x) m:=by
 induction m with
 |zero=>rfl
 |succ m ih=>
  rw[qhI,List.countP_append,ih];show _=cntP (fun x=>q x&&p x) m+(bif (q m&&p m) then 1 else 0);cases q m
  ·rfl
  ·cases hp:p m<;>simp[hp]
def cntT(ls:List qu)(S:List Nat)(k:Nat):Nat:=S.countP (fun x=>toL ls x==(k:Int))
theorem qr6{S:List Nat}{k:Nat}:cntT ls S k<=S.length:=List.countP_le_length
theorem qsd{S:List Nat}{j k:Nat}(a:j<S.length):cntT ls (S.take (j+1)) k=cntT ls (S.take j) k+(if toL ls S[j]=(k:Int) then 1 else 0):=by
 unfold cntT;rw[jD a,List.countP_append];by_cases h:toL ls S[j]=(k:Int)<;>simp[h]
theorem bumpV{f:Nat->Int}{c:Nat}{S:List Nat}{j:Nat}{d v:Int}(g:j<S.length)(b:toL ls S[j]=(c:Int))(h:v=f c+d*(cntT ls (S.take j) c:Int)+d) :
  setS (vecI (fun k=>f k+d*(cntT ls (S.take j) k:Int)) M) (c:Int) v=vecI (fun k=>f k+d*(cntT ls (S.take (j+1)) k:Int)) M:=by
 rw[qon];refine qfn fun k _=>?_;rw[qsd g,b];by_cases a:k=c
 ·subst a;rw[if_pos Z,if_pos Z,h];rw[Int.natCast_add,Int.mul_add];omega
 ·rw[if_neg a,if_neg (by omega)];simp
theorem qvJ(h:LkOk ls M){S:List Nat}(p:∀x,x∈S->x<ls.length)(s:S.length<=10000) :
  Ev (fun n=>qch ⟨V ⟨b,ps,ls,lo,de,ex⟩,lv⟩ (ints S) n (vecI (fun _=>0) M) 0) (vecI (fun k=>(cntT ls S k:Int)) M,(S.length:Int)):=by
 have:=loopF (Lf:=qch ⟨V ⟨b,ps,ls,lo,de,ex⟩,lv⟩ (ints S)) (S:=fun j=>vecI (fun k=>0+1*(cntT ls (S.take j) k:Int)) M) (len:=S.length) (fin:=(vecI (fun k=>(cntT ls S k:Int)) M,(S.length:Int))) (fun n=>by
   simp only[qch,qcQ,qn (je _),cond_false,jK];rw[qfn (f:=fun k=>0+1*(cntT ls S k:Int)) (g:=fun k=>(cntT ls S k:Int)) (fun k _=>by omega)])
  (fun j a X r=>by
   have m:=p S[j] (jo a);obtain⟨c,o⟩:∃c:Nat,(gt ls S[j]).To=(c:Int):=⟨_,qgT (h.to0 _ m)⟩;have i:c<M:=by have:=h.to1 _ m;omega
   have l:=qr6 (ls:=ls) (S:=S.take j) (k:=c);rw[Je] at l;simp only[qch,qcQ,ql a,cond_true,ql0 a,jd,qD m,o,qlH i,wS j];rw[qT (by omega) (by omega),bumpV (d:=1) a o (by omega)];exact r)
 rw[qfn (f:=fun k=>0+1*(cntT ls (S.take 0) k:Int)) (g:=fun _=>0) (fun k _=>by unfold cntT;simp)] at this;exact this
theorem qtl(h:LkOk ls M){S:List Nat}{f:Nat->Int}(p:∀x,x∈S->x<ls.length)(u:S.length<=10000)(s:∀k,k<M->-1<=f k/\f k<=10000) :
  Ev (fun n=>qci ⟨V ⟨b,ps,ls,lo,de,ex⟩,lv⟩ (ints S) n (vecI f M) 0) (vecI (fun k=>f k-(cntT ls S k:Int)) M,(S.length:Int)):=by
 have:=loopF (Lf:=qci ⟨V ⟨b,ps,ls,lo,de,ex⟩,lv⟩ (ints S)) (S:=fun j=>vecI (fun k=>f k+(-1)*(cntT ls (S.take j) k:Int)) M) (len:=S.length) (fin:=(vecI (fun k=>f k-(cntT ls S k:Int)) M,(S.length:Int))) (fun n=>by
   simp only[qci,qcQ,qn (je _),cond_false,jK];rw[qfn (f:=fun k=>f k+(-1)*(cntT ls S k:Int)) (g:=fun k=>f k-(cntT ls S k:Int)) (fun k _=>by omega)])
  (fun j i X r=>by
   have m:=p S[j] (jo i);obtain⟨c,o⟩:∃c:Nat,(gt ls S[j]).To=(c:Int):=⟨_,qgT (h.to0 _ m)⟩;have a:c<M:=by have:=h.to1 _ m;omega
   have l:=qr6 (ls:=ls) (S:=S.take j) (k:=c);rw[Je] at l;have t:=s c a;simp only[qci,qcQ,ql i,cond_true,ql0 i,jd,qD m,o,qlH a,wS j];rw[qT (by omega) (by omega),bumpV (d:=-1) i o (by omega)];exact r)
 rw[qfn (f:=fun k=>f k+(-1)*(cntT ls (S.take 0) k:Int)) (g:=f) (fun k _=>by unfold cntT;simp)] at this;exact this
def openV(ls:List qu)(lv:List Bool)(R:List Nat)(k:Nat):Int:=if k∈R then -1 else(inL ls lv ls.length R k:Int)
theorem qsE{R:List Nat}:ixL (fun y=>(0:Int)==y) (vecI (openV ls lv R) M)=match nxtL ls lv M R with|some k=>(k:Int)|none=>-1:=by
 rw[quG];have:(fun k=>((0:Int)==openV ls lv R k))=freeN ls.length (frL ls) (toL ls) (lvL lv) R:=by
  funext k
  unfold openV freeN;by_cases a:k∈R
  ·rw[if_pos a];simp[a]
  ·rw[if_neg a];simp only[a,decide_false,Bool.not_false,jF];by_cases b:inL ls lv ls.length R k=0
   ·simp[b]
   ·rw[show((0:Int)==((inL ls lv ls.length R k:Nat):Int))=false from beq_eq_false_iff_ne.2 (by omega)];simpa using b
 rw[this]
 rfl
theorem qpn(h:LkOk ls M)(t:lv.length=ls.length)(F:M=2*ps.length):Ev (fun n=>qg4 n (grV ls lv ps b lo de ex)) (ordR ls lv M):=by
 have H:=h.nodes;have C:=h.len;have g:∀m R,R.length+m=M->Closed ls.length (frL ls) (toL ls) (lvL lv) R->∃y:List Int×List Int×Int,Ev (fun n=>qck (grV ls lv ps b lo de ex) ⟨V ⟨b,ps,ls,lo,de,ex⟩,lv⟩ (vecI (fun _=>0) M) n (ints R) (vecI (openV ls lv R) M) (R.length:Int))
   (match ordL ls lv M m R with|some R'=>.nxt (ints R',y.2.1,y.2.2)|none=>.ret ([],false)):=by
  intro m
  induction m with
  |zero=>
   intro R A _;refine⟨(ints R,vecI (openV ls lv R) M,(R.length:Int)),Ev.succ ?_⟩;simp only[qck,qkd,qn (show M<=R.length by omega),cond_false];exact .done
  |succ m ih=>
   intro R A s;have c:=qp4 (xs:=vecI (openV ls lv R) M) (by rw[qkd];omega);rw[qsE] at c;cases hn:nxtL ls lv M R with
   |none=>
    rw[hn] at c;rw[qss hn];refine⟨([],[],0),Ev.succ ?_⟩;simp only[qck,qkd,ql (show R.length<M by omega),cond_true];exact Ev.bind c (Ev.tt (by decide) .done)
   |some k=>
    rw[hn] at c;rw[qsg hn];obtain⟨B,d,r⟩:=qnc hn;obtain⟨y,o⟩:=ih (R++[k]) (by rw[jg,ji];omega) (s.snoc r);refine⟨y,Ev.succ ?_⟩;simp only[qck,qkd,ql (show R.length<M by omega),cond_true];refine Ev.bind c (Ev.ff (by simp) ?_);rw[qlH B,qbP (by rw[qcQ,ji];omega),qon,<-qil];simp only[jd];refine Ev.bind (qu2 h t) ?_;have D:=qje (q:=fun x=>lvL lv x&&(frL ls x==(k:Int))) (j:=ls.length);refine Ev.bind (qtl h (fun x p=>(qls.1 p).1) (by omega) (fun i hi=>?_)) ?_
    ·split
     ·omega
     ·unfold openV;have:inL ls lv ls.length R i<=ls.length:=qvH;split<;>omega
    ·have u:vecI (fun i=>(if i=k then -1 else openV ls lv R i)-(cntT ls (selN (fun x=>lvL lv x&&(frL ls x==(k:Int))) ls.length) i:Int)) M=vecI (openV ls lv (R++[k])) M:=by
      refine qfn fun i _=>?_;have v:cntT ls (selN (fun x=>lvL lv x&&(frL ls x==(k:Int))) ls.length) i=lkN ls.length (frL ls) (toL ls) (lvL lv) k i:=qtB;rw[v];unfold openV;by_cases a:i∈R++[k]
      ·rw[if_pos a,s.no_back d r a];rcases List.mem_append.1 a with l|l
       ·split
        ·rfl
        ·rfl
       ·rw[if_pos (List.mem_singleton.1 l)];rfl
      ·have l:i∉R:=fun e=>a (jM _ e);have z:i≠k:=fun e=>a (jZ _ (List.mem_singleton.2 e));rw[if_neg a,if_neg z,if_neg l];have:=qtT (L:=ls.length) (fr:=frL ls) (to:=toL ls) (lv:=lvL lv) (R:=R) (i:=k) (k:=i) d;show(inN _ _ _ _ R i:Int)-_=(inN _ _ _ _ (R++[k]) i:Int);omega
     rw[u,qha (show R.length<9223372036854775807 by omega)];rw[jg,ji] at o;exact o
 have f:=qvJ (b:=b) (ps:=ps) (lo:=lo) (de:=de) (ex:=ex) (lv:=lv) h (S:=selN (lvL lv) ls.length) (fun x p=>(qls.1 p).1) (by have:=qje (q:=lvL lv) (j:=ls.length);omega);have e0:vecI (fun k=>(cntT ls (selN (lvL lv) ls.length) k:Int)) M=vecI (openV ls lv []) M:=by
  refine qfn fun k _=>?_;unfold openV;rw[if_neg (by simp)]
  congr 1
  show List.countP _ _=inN _ _ _ _ [] k;rw[qtB];unfold inN;exact qor fun x _=>by simp[ints]
 rw[e0] at f;obtain⟨y,o⟩:=g M [] (by simp) Closed.nil;unfold qg4;show Ev (fun n=>(V _).bind _) _;simp only[jd,qeR,qej];rw[qT (by omega) (by omega),show 2*(ps.length:Int)=(M:Int) by omega,qpk (by omega)];simp only[jd];refine Ev.bind (qqd h t) (Ev.bind f (Ev.bind o ?_));unfold ordR;cases ordL ls lv M M []<;>exact .done
end

theorem qqk{n m:Nat}{a b mode:Int}:qfk n a b mode=qcH m a b mode:=by
 unfold qfk qcH;cases quoS a b with
 |none=>rfl
 |some y1=>
  cases remS a b with
  |none=>rfl
  |some y2=>
   simp only[jd];generalize decide (y2<0)=p;generalize decide (y2 > 0)=q;generalize (mode==0)=m0;generalize (mode==1)=m1;cases p<;>cases q<;>cases m0<;>cases m1<;>rfl
theorem qtf{a b:Int}(f:0<b):-(if a<0 then -a else a)<=a.tdiv b/\a.tdiv b<=(if a<0 then -a else a):=by
 by_cases h:a<0
 ·rw[if_pos h];have e:a.tdiv b=-((-a).tdiv b):=by rw[Int.neg_tdiv,Int.neg_neg]
  rw[e,jB (show 0<=-a by omega)];have c:=Int.ediv_nonneg (show 0<=-a by omega) (show 0<=b by omega);have d:=Int.ediv_le_self (a:=-a) b (by omega);omega
 ·rw[if_neg h,jB (by omega)];have c:=Int.ediv_nonneg (show 0<=a by omega) (show 0<=b by omega);have d:=Int.ediv_le_self (a:=a) b (by omega);omega
theorem qjo{n:Nat}{a b mode:Int}(d:0<b)(g:-9000000000000000000<=a)(h:a<=9000000000000000000):qcH n a b mode=V (divI a b mode):=by
 have c:=qtf (a:=a) d;have i:-9000000000000000000<=a.tdiv b/\a.tdiv b<=9000000000000000000:=by
  revert c;split<;>intro c<;>omega
 unfold qcH quoS remS divI;rw[if_neg (by omega),if_neg (by omega)];have f:IntKind.i64.wrap (a.tdiv b)=a.tdiv b:=qT (by omega) (by omega);simp only[f,jd];rw[wO (a.tdiv b-1),wO (a.tdiv b+1)];generalize decide (a.tmod b<0)=p;generalize decide (a.tmod b > 0)=q;generalize (mode==0)=m0;generalize (mode==1)=m1;cases p<;>cases q<;>cases m0<;>cases m1<;>rfl
theorem qmY{a b mode M:Int}(d:0<b)(c:0<=a)(h:a<=b*M):0<=divI a b mode/\divI a b mode<=M:=by
 rw[qqj c d];have e:=Int.emod_add_mul_ediv a b;have k:=Int.emod_nonneg a (show b≠0 by omega);have g:=Int.ediv_nonneg c (show 0<=b by omega);have i:a / b<=M:=Int.ediv_le_of_le_mul d (by rw[Int.mul_comm];exact h);split
 ·rename_i hc
  refine⟨by omega,?_⟩;have:a / b<M:=by
   refine Int.lt_of_not_ge fun l=>?_;have f:a / b=M:=by omega
   rw[f] at e;omega
  omega
 ·exact⟨g,i⟩
structure AxOk(ax:List Int):Prop where
 lo:1<=ax.length
 hi:ax.length<=4
 at_:∀j,j<ax.length->0<=at0 ax j/\at0 ax j<=100000
 inc:∀j i,i<j->j<ax.length->at0 ax i<at0 ax j
theorem qqH{b:List Int}(h:axisB b=true):AxOk b:=by
 unfold axisB lenB incB at h;simp only[jf,decide_eq_true_eq] at h;obtain⟨⟨m,n⟩,k,l⟩:=h;rw[qgN (d:=0),qaI] at k;rw[qaI] at l;refine⟨m,n,fun j f=>by have:=k j f;rw[qbd] at this;exact this,fun j=>?_⟩
 induction j with
 |zero=>intro i hi _;omega
 |succ j ih=>
  intro i hi f;have a:=l (j+1) f;unfold stepB at a;simp only[Bool.or_eq_true,decide_eq_true_eq,Nat.add_sub_cancel] at a;have g:at0 b j<at0 b (j+1):=by
   rcases a with a|a
   ·omega
   ·exact a
  by_cases c:i=j
  ·rw[c];exact g
  ·have:=ih i (by omega) (by omega);omega
theorem least{P:Nat->Prop}:∀m,P m->∃p,p<=m/\P p/\∀k,k<p->¬ P k:=by
 intro m
 induction m using Nat.strongRecOn with
 |ind m ih=>
  intro f;by_cases h:∃k,k<m/\P k
  ·obtain⟨k,a,b⟩:=h;obtain⟨p,g,c,d⟩:=ih k a b;exact⟨p,by omega,c,d⟩
  ·exact⟨m,je _,f,fun k a b=>h ⟨k,a,b⟩⟩
structure Wt(ax:List Int)(i:Nat)(a b:Int):Prop where
 il:i<ax.length
 a0:0<a
 a1:a<=100000
 b0:0<=b
 b1:b<=100000
 nx:0<b->i+1<ax.length
 one:b=0->a=1
def wtL(i:Nat)(a b:Int):List Tweight:=if b=0 then[⟨(i:Int),1⟩] else[⟨(i:Int),a⟩,⟨((i+1:Nat):Int),b⟩]
def clampV(a:List Int)(x:Int):Int:=if at0 a (a.length-1)<(if at0 a 0 > x then at0 a 0 else x) then at0 a (a.length-1) else(if at0 a 0 > x then at0 a 0 else x)
theorem qu0{m:Nat}(h:m<=8):shrS .u64 (IntKind.wrap .u64 (W64 (m:Int))) 1=V ((m / 2:Nat):Int):=by
 rcases (by omega:m=0\/m=1\/m=2\/m=3\/m=4\/m=5\/m=6\/m=7\/m=8) with e|e|e|e|e|e|e|e|e<;>rw[e]<;>rfl
theorem qsf{a:List Int}(h:AxOk a){c:Int}{p:Nat}(s:p<a.length)(z:c<=at0 a p)(t:∀k,k<p->at0 a k<c) :
  Ev (fun n=>qdk n a c) ((p:Int),(at0 a p==c)):=by
 have y:=h.hi;have b:∀d i j,j-i<=d->i<=p->p<=j->j<=a.length->Ev (fun n=>qaE a c n (i:Int) (j:Int)) ((p:Int),(p:Int)):=by
  intro d
  induction d with
  |zero=>
   intro i j u hi m o;refine Ev.succ ?_;simp only[qaE,qn (show j<=i by omega),cond_false];rw[show i=p by omega,show j=p by omega];exact .done
  |succ d ih=>
   intro i j u hi m o;refine Ev.succ ?_;by_cases g:i<j
   ·have r:(i+j) / 2<a.length:=by omega
    simp only[qaE,ql g,cond_true,<-Int.natCast_add,qu0 (show i+j<=8 by omega),jd,qT (x:=(((i+j) / 2:Nat):Int)) (by omega) (by omega),qaA r,qjf,qhp,bne_self_eq_false,cond_false,qha (show(i+j) / 2<9223372036854775807 by omega)];by_cases f:at0 a ((i+j) / 2)<c
    ·refine Ev.tt (by simpa using f) (ih _ _ (by omega) ?_ m o);refine Nat.lt_of_not_le fun l=>?_;by_cases v:p=(i+j) / 2
     ·rw[<-v] at f;omega
     ·have:=h.inc ((i+j) / 2) p (by omega) r;omega
    ·refine Ev.ff (by simpa using f) (ih _ _ (by omega) hi ?_ (by omega));refine Nat.le_of_not_lt fun l=>f (t _ l)
   ·simp only[qaE,qn (show j<=i by omega),cond_false];rw[show i=p by omega,show j=p by omega];exact .done
 unfold qdk;refine Ev.bind (b a.length 0 a.length (by omega) (by omega) (by omega) (je _)) ?_;simp only[ql s,cond_true,qaA s,jd,qge,bne_self_eq_false,cond_false];cases at0 a p==c<;>exact .done
def WAt(d:List Int)(i:Nat)(a b c:Int):Prop:=(b=0/\at0 d i=c)\/(0<b/\a=at0 d (i+1)-c/\b=c-at0 d i)
theorem qoF{f:List Int}(h:AxOk f)(x:Int):∃i a b,Wt f i a b/\WAt f i a b (clampV f x)/\Ev (fun n=>qdb n f x) ((i:Int),a,b)/\Ev (fun n=>qfa n f x) (wtL i a b,a+b):=by
 have M:=h.lo;have I:=h.hi;have L:at0 f 0<=at0 f (f.length-1):=by
  by_cases D:f.length-1=0
  ·rw[D];exact jT _
  ·have:=h.inc (f.length-1) 0 (by omega) (by omega);omega
 obtain⟨c,v⟩:∃c,c=clampV f x:=⟨_,rfl⟩;have y:at0 f 0<=c/\c<=at0 f (f.length-1):=by
  rw[v];unfold clampV;split<;>split at *<;>omega
 obtain⟨p,Q,s,z⟩:=least (P:=fun k=>c<=at0 f k) (f.length-1) y.2;have o:p<f.length:=by omega
 have t:∀k,k<p->at0 f k<c:=fun k K=>by have:=z k K;omega
 have C:=qsf h o s t;have l:(if at0 f (f.length-1)<(if at0 f 0 > x then at0 f 0 else x) then at0 f (f.length-1) else(if at0 f 0 > x then at0 f 0 else x))=c:=v.symm;have g:W64 ((f.length:Int)-1)=((f.length-1:Nat):Int):=by rw[qe9 (by omega)];omega
 have T:=h.at_ p o;have m:∀(R:Int×Int×Int),Ev (fun n=>qbH f x (at0 f 0) (at0 f (f.length-1)) n (p:Int)) (.ret R)->Ev (fun n=>qdb n f x) R:=by
  intro R F;have u:∀d j,j=p+d->j<f.length->Ev (fun n=>qbH f x (at0 f 0) (at0 f (f.length-1)) n (j:Int)) (.ret R):=by
   intro d
   induction d with
   |zero=>intro j J _;rw[show j=p by omega];exact F
   |succ d ih=>
    intro j J B;have H:=h.inc j p (by omega) B;refine Ev.succ ?_;simp only[qbH,show decide ((j:Int)>=0)=true from decide_eq_true (by omega),cond_true,qaA B,jd,l];refine Ev.ff (beq_eq_false_iff_ne.2 (by omega)) (Ev.ff (decide_eq_false (by omega)) ?_);rw[show(j:Int)-1=((j-1:Nat):Int) by omega,qT (by omega) (by omega)];exact ih (j-1) (by omega) (by omega)
  unfold qdb;rw[show(0:Int)=((0:Nat):Int) from rfl,qaA (show 0<f.length by omega),g,qaA (show f.length-1<f.length by omega)];simp only[jd];exact Ev.bind (u (f.length-1-p) (f.length-1) (by omega) (by omega)) .done
 by_cases r:at0 f p=c
 ·refine⟨p,1,0,⟨o,by omega,by omega,by omega,by omega,fun h=>absurd h (by omega),fun _=>rfl⟩,v ▸ .inl ⟨rfl,r⟩,m _ (Ev.succ ?_),?_⟩
  ·simp only[qbH,show decide ((p:Int)>=0)=true from decide_eq_true (by omega),cond_true,qaA o,jd,l];exact Ev.tt (beq_iff_eq.2 r.symm) .done
  ·unfold qfa;rw[show(0:Int)=((0:Nat):Int) from rfl,qaA (show 0<f.length by omega),g,qaA (show f.length-1<f.length by omega)];simp only[jd,l];exact Ev.bind C (Ev.tt (beq_iff_eq.2 r) (Ev.now Z))
 ·have O:0<p:=by
   refine Nat.pos_of_ne_zero fun e=>r ?_;rw[e] at s⊢;omega
  have N:=t (p-1) (by omega);have S:=h.at_ (p-1) (by omega);have A:((p:Int)-1)=((p-1:Nat):Int):=by omega
  refine⟨p-1,at0 f p-c,c-at0 f (p-1),⟨by omega,by omega,by omega,by omega,by omega,fun _=>by omega,fun h=>absurd h (by omega)⟩,v ▸ .inr ⟨by omega,by rw[show p-1+1=p by omega],rfl⟩,m _ (Ev.succ ?_),?_⟩
  ·simp only[qbH,show decide ((p:Int)>=0)=true from decide_eq_true (by omega),cond_true,qaA o,jd,l];refine Ev.ff (beq_eq_false_iff_ne.2 (by omega)) (Ev.ff (decide_eq_false (by omega)) ?_);rw[A,qT (x:=((p-1:Nat):Int)) (by omega) (by omega)];refine Ev.succ ?_;simp only[qbH,show decide (((p-1:Nat):Int)>=0)=true from decide_eq_true (by omega),cond_true,qaA (show p-1<f.length by omega),jd,l];refine Ev.ff (beq_eq_false_iff_ne.2 (by omega)) (Ev.tt (decide_eq_true (by omega)) ?_);rw[qha (show p-1<9223372036854775807 by omega),show p-1+1=p by omega,qaA o];simp only[jd];rw[wO (at0 f p-c),wO (c-at0 f (p-1))];exact .done
  ·unfold qfa;rw[show(0:Int)=((0:Nat):Int) from rfl,qaA (show 0<f.length by omega),g,qaA (show f.length-1<f.length by omega)];simp only[jd,l];refine Ev.bind C (Ev.ff (beq_eq_false_iff_ne.2 r) ?_);rw[qaA o,A,qT (x:=((p-1:Nat):Int)) (by omega) (by omega),qaA (show p-1<f.length by omega)];simp only[jd];rw[wO (at0 f p-c),wO (c-at0 f (p-1)),wO (at0 f p-at0 f (p-1))];refine Ev.now ?_;unfold wtL;rw[if_neg (by omega),show p-1+1=p by omega]
   congr 2
   omega

structure TbOk(t:qN):Prop where
 s:AxOk t.Bk
 l:AxOk t.Be
 n:t.Az.length=t.Bk.length*t.Be.length
 v:∀k,-1000000<=at0 t.Az k/\at0 t.Az k<=1000000
theorem qr5{xs:List Int}{k:Nat}(h:¬ k<xs.length):at0 xs k=0:=by simp[at0,jy,List.getElem?_eq_none (show xs.length<=k by omega)]
theorem qsq{t:qN}(h:tableB t=true):TbOk t:=by
 unfold tableB at h;simp only[jf,decide_eq_true_eq] at h;obtain⟨c,f,g,a⟩:=h;rw[qgN (d:=0),qaI] at a;refine⟨qqH c,qqH f,g,fun k=>?_⟩;by_cases b:k<t.Az.length
 ·have:=a k b;rw[qbd] at this;exact this
 ·rw[qr5 b];omega
def tv(t:qN)(i j:Nat):Int:=at0 t.Az (i*t.Be.length+j)
theorem mulA{x y Y:Int}(a:0<=x)(c:-Y<=y)(d:y<=Y):-(x*Y)<=x*y/\x*y<=x*Y:=by
 have f:=Int.mul_le_mul_of_nonneg_left d a;have b:=Int.mul_le_mul_of_nonneg_left c a;rw[Int.mul_neg] at b;exact⟨b,f⟩
theorem mulT{w q v:Int}(d:0<=w)(w1:w<=100000)(b:0<=q)(c:q<=100000)(h:-1000000<=v)(i:v<=1000000):(0<=w*q/\w*q<=10000000000)/\(-10000000000000000<=w*q*v/\w*q*v<=10000000000000000):=by
 have a:=jS d b;have f:w*q<=100000*100000:=Ja w1 c b (by omega);have g:=mulA (x:=w*q) (y:=v) (Y:=1000000) a (by omega) (by omega);refine⟨⟨a,by omega⟩,?_,?_⟩<;>omega
theorem qve{t:qN}{i j:Nat}(h:TbOk t)(hi:i<t.Bk.length)(f:j<t.Be.length):i*t.Be.length+j<t.Az.length/\t.Az.length<=16:=by
 have a:=h.s.hi;have b:=h.l.hi;have c:(i+1)*t.Be.length<=t.Bk.length*t.Be.length:=js _ hi;have d:t.Bk.length*t.Be.length<=4*4:=Nat.mul_le_mul a b;rw[h.n];rw[Nat.add_mul] at c;omega
theorem sTerm{t:qN}(h:TbOk t){i j c k:Nat}{a1 b1 a2 b2 w q s:Int}(I:c<2)(J:k<2)(B:w=if c=1 then b1 else a1)(f:q=if k=0 then a2 else b2)
  (F:0<=w) (w1:w<=100000) (C:0<=q) (D:q<=100000) (hi:0<w->i+c<t.Bk.length) (z:0<q->j+k<t.Be.length) (s0:-1000000000000000000<=s) (s1:s<=1000000000000000000) (n:Nat) :
  qcA t (i:Int) a1 b1 (j:Int) a2 b2 (c:Int) (n+1) s (k:Int)=qcA t (i:Int) a1 b1 (j:Int) a2 b2 (c:Int) n (s+w*q*tv t (i+c) (j+k)) ((k+1:Nat):Int):=by
 have l:=h.v ((i+c)*t.Be.length+(j+k));obtain⟨⟨M,N⟩,O,P⟩:=mulT F w1 C D l.1 l.2;have o:(bif ((c:Int)==1) then V b1 else V a1)=V w:=by
  rw[B];by_cases a:c=1
  ·rw[if_pos a,a];rfl
  ·rw[if_neg a,show((c:Int)==1)=false from beq_eq_false_iff_ne.2 (by omega)];rfl
 have p:(bif ((k:Int)==0) then V (W64 (w*a2)) else V (W64 (w*b2)))=V (w*q):=by
  have m:W64 (w*q)=w*q:=qT (by omega) (by omega);by_cases a:k=0
  ·rw[if_pos a] at f;rw[a,<-f,m];rfl
  ·rw[if_neg a] at f;rw[show((k:Int)==0)=false from beq_eq_false_iff_ne.2 (by omega),<-f,m];rfl
 rw[qcA];simp only[show decide ((k:Int)<2)=true from decide_eq_true (by omega),cond_true,o,p,jd,wS k];by_cases d:w*q > 0
 ·have b:0<w:=by
   by_cases e:w=0
   ·rw[e,Int.zero_mul] at d;omega
   ·omega
  have g:0<q:=by
   by_cases e:q=0
   ·rw[e,Int.mul_zero] at d;omega
   ·omega
  obtain⟨H,Q⟩:=qve h (hi b) (z g);have K:=h.l.hi;have L:=h.s.hi;have y:=hi b;have A:((i+c:Nat):Int)*(t.Be.length:Int)=(((i+c)*t.Be.length:Nat):Int):=(Int.natCast_mul _ _).symm;have u:W64 (W64 (W64 (W64 ((i:Int)+(c:Int))*(t.Be.length:Int))+(j:Int))+(k:Int))=(((i+c)*t.Be.length+(j+k):Nat):Int):=by
   rw[wO ((i:Int)+(c:Int)),<-Int.natCast_add,A,qT (x:=(((i+c)*t.Be.length:Nat):Int)) (by omega) (by omega),<-Int.natCast_add,qT (x:=(((i+c)*t.Be.length+j:Nat):Int)) (by omega) (by omega),<-Int.natCast_add,qT (by omega) (by omega),Nat.add_assoc]
  rw[show decide (w*q > 0)=true from decide_eq_true d,u,qaA H];simp only[cond_true,jd];have r:W64 (s+W64 (w*q*at0 t.Az ((i+c)*t.Be.length+(j+k))))=s+w*q*tv t (i+c) (j+k):=by
   unfold tv;rw[qT (x:=w*q*at0 t.Az ((i+c)*t.Be.length+(j+k))) (by omega) (by omega),qT (by omega) (by omega)]
  rw[r]
 ·have v:w*q=0:=by omega
  rw[show decide (w*q > 0)=false from decide_eq_false d,v,Int.zero_mul,Int.add_zero]
  rfl
def rowS(t:qN)(j:Nat)(a2 b2:Int)(i:Nat):Int:=a2*tv t i j+b2*tv t i (j+1)
theorem qkL{t:qN}(h:TbOk t){i j:Nat}:-1000000<=tv t i j/\tv t i j<=1000000:=h.v _
theorem qpZ{t:qN}(h:TbOk t){i j:Nat}{a2 b2:Int}(a0:0<=a2)(b0:0<=b2):-((a2+b2)*1000000)<=rowS t j a2 b2 i/\rowS t j a2 b2 i<=(a2+b2)*1000000:=by
 have a:=mulA (x:=a2) (y:=tv t i j) (Y:=1000000) a0 (qkL h).1 (qkL h).2;have b:=mulA (x:=b2) (y:=tv t i (j+1)) (Y:=1000000) b0 (qkL h).1 (qkL h).2;unfold rowS;omega
theorem sRow{t:qN}(h:TbOk t){i j c:Nat}{a1 b1 a2 b2 w s:Int}(d:c<2)(f:w=if c=1 then b1 else a1)(b:0<=w)(w1:w<=100000)(hi:0<w->i+c<t.Bk.length)(a:Wt t.Be j a2 b2)
  (s0:-100000000000000000<=s) (s1:s<=100000000000000000):Ev (fun n=>qcA t (i:Int) a1 b1 (j:Int) a2 b2 (c:Int) n s 0) (s+w*rowS t j a2 b2 (i+c),2):=by
 have l:=a.a0;have g:=a.b0;have m:=(mulT b w1 (show 0<=a2 by omega) a.a1 (qkL h (i:=i+c) (j:=j)).1 (qkL h).2).2;refine Ev.step (fun n=>sTerm h d (k:=0) (w:=w) (q:=a2) (by omega) f Z b w1 (by omega) a.a1 hi (fun _=>a.il) (by omega) (by omega) n) ?_;refine Ev.step (fun n=>sTerm h d (k:=1) (w:=w) (q:=b2) (by omega) f Z b w1 g a.b1 hi a.nx (by show _<=s+w*a2*tv t (i+c) (j+0);rw[Nat.add_zero];omega) (by show s+w*a2*tv t (i+c) (j+0)<=_;rw[Nat.add_zero];omega) n) ?_;refine Ev.succ ?_;simp only[qcA,show decide (((1+1:Nat):Int)<2)=false from rfl,cond_false];refine Ev.now ?_;unfold rowS;rw[Int.mul_add,<-Jc,<-Jc,Int.add_assoc,Nat.add_zero]
 rfl
theorem iTerm{t:qN}(h:TbOk t){a:List Tweight}{i j k:Nat}{w q s:Int}(m:k<a.length)(A:a.length<=2)(p:idx a (k:Int)=V ⟨(j:Int),q⟩)(c:0<=w)(w1:w<=100000)(r:0<=q)(u:q<=100000)
  (hi:i<t.Bk.length) (l:j<t.Be.length) (s0:-1000000000000000000<=s) (s1:s<=1000000000000000000) (n:Nat) :
  qba t a ⟨(i:Int),w⟩ (n+1) s (k:Int)=qba t a ⟨(i:Int),w⟩ n (s+w*q*tv t i j) ((k+1:Nat):Int):=by
 have b:=qkL h (i:=i) (j:=j);obtain⟨_,C,D⟩:=mulT c w1 r u b.1 b.2;have F:=mulA (x:=w) (y:=tv t i j) (Y:=1000000) c b.1 b.2;obtain⟨v,H⟩:=qve h hi l;have z:=h.l.hi;have B:=h.s.hi;have o:(i:Int)*(t.Be.length:Int)=((i*t.Be.length:Nat):Int):=(Int.natCast_mul _ _).symm;rw[qba];simp only[ql m,cond_true,p,jd,wS k,o];rw[qT (x:=((i*t.Be.length:Nat):Int)) (by omega) (by omega),<-Int.natCast_add,qT (x:=((i*t.Be.length+j:Nat):Int)) (by omega) (by omega),qaA v];simp only[jd];have d:W64 (s+W64 (W64 (at0 t.Az (i*t.Be.length+j)*w)*q))=s+w*q*tv t i j:=by
  have f:at0 t.Az (i*t.Be.length+j)*w=w*tv t i j:=Int.mul_comm _ _;have g:w*tv t i j*q=w*q*tv t i j:=by rw[Jc,Int.mul_comm (tv t i j) q,<-Jc]
  rw[f,wO (w*tv t i j),g,wO (w*q*tv t i j),qT (by omega) (by omega)]
 rw[d]
theorem iRow{t:qN}(h:TbOk t){i j:Nat}{a2 b2 w s:Int}(b:0<=w)(w1:w<=100000)(hi:i<t.Bk.length)(a:Wt t.Be j a2 b2)
  (s0:-100000000000000000<=s) (s1:s<=100000000000000000):Ev (fun n=>qba t (wtL j a2 b2) ⟨(i:Int),w⟩ n s 0) (s+w*rowS t j a2 b2 i,((wtL j a2 b2).length:Int)):=by
 have l:=a.a0;have g:=a.b0;have m:=(mulT b w1 (show 0<=a2 by omega) a.a1 (qkL h (i:=i) (j:=j)).1 (qkL h).2).2;by_cases c:b2=0
 ·have f:=a.one c;subst c f;have d:wtL j 1 0=[⟨(j:Int),1⟩]:=if_pos Z;rw[d];refine Ev.step (fun n=>iTerm h (k:=0) (q:=1) (by simp) (by simp) Z b w1 (by omega) (by omega) hi a.il (by omega) (by omega) n) (Ev.succ ?_);simp only[qba];refine Ev.ff Z (Ev.now ?_);unfold rowS;rw[Int.mul_one,Int.one_mul,Int.zero_mul,Int.add_zero]
  rfl
 ·have d:wtL j a2 b2=[⟨(j:Int),a2⟩,⟨((j+1:Nat):Int),b2⟩]:=if_neg c;rw[d];refine Ev.step (fun n=>iTerm h (k:=0) (q:=a2) (by simp) (by simp) Z b w1 (by omega) a.a1 hi a.il (by omega) (by omega) n) ?_;refine Ev.step (fun n=>iTerm h (k:=1) (j:=j+1) (q:=b2) (by simp) (by simp) Z b w1 g a.b1 hi (a.nx (by omega)) (by omega) (by omega) n) (Ev.succ ?_);simp only[qba];refine Ev.ff Z (Ev.now ?_);unfold rowS;rw[Int.mul_add,<-Jc,<-Jc,Int.add_assoc]
  rfl
def sumS(t:qN)(i j:Nat)(a1 b1 a2 b2:Int):Int:=a1*rowS t j a2 b2 i+b1*rowS t j a2 b2 (i+1)
theorem rowT{t:qN}(h:TbOk t){i j:Nat}{w a2 b2:Int}(f:0<=w)(w1:w<=100000)(a:Wt t.Be j a2 b2):-20000000000000000<=w*rowS t j a2 b2 i/\w*rowS t j a2 b2 i<=20000000000000000:=by
 have l:=a.a0;have c:=a.b0;have b:=a.a1;have d:=a.b1;have g:=qpZ h (i:=i) (j:=j) (a2:=a2) (b2:=b2) (by omega) c;have k:=mulA (x:=w) (y:=rowS t j a2 b2 i) (Y:=200000000000) f (by omega) (by omega);omega
theorem quz{t:qN}(h:TbOk t){sl ld:Int}{i j:Nat}{a1 b1 a2 b2:Int}(W1:Wt t.Bk i a1 b1)(W2:Wt t.Be j a2 b2)
  (p:Ev (fun n=>qdb n t.Bk sl) ((i:Int),a1,b1)/\Ev (fun n=>qfa n t.Bk sl) (wtL i a1 b1,a1+b1)) (D:Ev (fun n=>qdb n t.Be ld) ((j:Int),a2,b2)/\Ev (fun n=>qfa n t.Be ld) (wtL j a2 b2,a2+b2)) :
  0<(a1+b1)*(a2+b2)/\sumS t i j a1 b1 a2 b2<=(a1+b1)*(a2+b2)*1000000/\-((a1+b1)*(a2+b2)*1000000)<=sumS t i j a1 b1 a2 b2/\-9000000000000000000<=sumS t i j a1 b1 a2 b2/\sumS t i j a1 b1 a2 b2<=9000000000000000000/\((∀k,0<=at0 t.Az k)->0<=sumS t i j a1 b1 a2 b2) /\
  ∀mode,Ev (fun n=>qfZ n t sl ld mode) (divI (sumS t i j a1 b1 a2 b2) ((a1+b1)*(a2+b2)) mode)/\Ev (fun n=>qcX n t sl ld mode) (divI (sumS t i j a1 b1 a2 b2) ((a1+b1)*(a2+b2)) mode):=by
 obtain⟨p1,H⟩:=p;obtain⟨F,I⟩:=D;have B:=W1.a0;have a:=W1.b0;have C:=W2.a0;have b:=W2.b0;have d:=W1.a1;have f:=W1.b1;have J:=W2.a1;have K:=W2.b1;have r1:=rowT h (i:=i) (w:=a1) (by omega) d W2;have M:=rowT h (i:=i+1) (w:=b1) a f W2;have v:=qpZ h (i:=i) (j:=j) (a2:=a2) (b2:=b2) (by omega) b;have z:=qpZ h (i:=i+1) (j:=j) (a2:=a2) (b2:=b2) (by omega) b;have N:=mulA (x:=a1) (y:=rowS t j a2 b2 i) (Y:=(a2+b2)*1000000) (by omega) v.1 v.2;have O:=mulA (x:=b1) (y:=rowS t j a2 b2 (i+1)) (Y:=(a2+b2)*1000000) a z.1 z.2;have L:a1*((a2+b2)*1000000)+b1*((a2+b2)*1000000)=(a1+b1)*(a2+b2)*1000000:=by rw[<-Int.add_mul,Jc]
 have D0:0<(a1+b1)*(a2+b2):=Int.mul_pos (by omega) (by omega);have D1:(a1+b1)*(a2+b2)<=200000*200000:=Ja (by omega) (by omega) (by omega) (by omega);refine⟨D0,by unfold sumS;omega,by unfold sumS;omega,by unfold sumS;omega,by unfold sumS;omega,fun u=>?_,fun mode=>⟨?_,?_⟩⟩
 ·have s:∀i,0<=rowS t j a2 b2 i:=fun i=>Int.add_nonneg (jS (by omega) (u _)) (jS b (u _));exact Int.add_nonneg (jS (by omega) (s _)) (jS a (s _))
 ·have l:Ev (fun n=>qdX t (i:Int) a1 b1 (j:Int) a2 b2 n 0 0) (sumS t i j a1 b1 a2 b2,2):=by
   refine Ev.succ ?_;simp only[qdX];refine Ev.tt Z (Ev.bind (sRow h (c:=0) (w:=a1) (by omega) Z (by omega) d (fun _=>W1.il) W2 (by omega) (by omega)) ?_);refine Ev.succ ?_;simp only[qdX];refine Ev.tt Z (Ev.bind (sRow h (c:=1) (w:=b1) (by omega) Z a f W1.nx W2 (by rw[Nat.add_zero];omega) (by rw[Nat.add_zero];omega)) ?_);refine Ev.succ ?_;simp only[qdX];refine Ev.ff Z (Ev.now ?_);unfold sumS;rw[Int.zero_add,Nat.add_zero]
   rfl
  unfold qfZ;refine Ev.bind p1 (Ev.bind F (Ev.bind l ?_));show Ev (fun n=>(qcH n (sumS t i j a1 b1 a2 b2) (W64 (W64 (a1+b1)*W64 (a2+b2))) mode).bind fun r=>V r) _;rw[wO (a1+b1),wO (a2+b2),wO ((a1+b1)*(a2+b2))];exact Ev.bind ⟨0,fun n _=>qjo D0 (by unfold sumS;omega) (by unfold sumS;omega)⟩ .done
 ·have l:Ev (fun n=>qbb t (wtL i a1 b1) (wtL j a2 b2) n 0 0) (sumS t i j a1 b1 a2 b2,((wtL i a1 b1).length:Int)):=by
   by_cases g:b1=0
   ·have A:=W1.one g;subst g A;have o:wtL i 1 0=[⟨(i:Int),1⟩]:=if_pos Z;rw[o];refine Ev.succ ?_;simp only[qbb];refine Ev.tt Z (Ev.bind (Ev.now Z) (Ev.bind (iRow h (i:=i) (w:=1) (by omega) (by omega) W1.il W2 (by omega) (by omega)) (Ev.succ ?_)));simp only[qbb];refine Ev.ff Z (Ev.now ?_);unfold sumS;rw[Int.zero_add,Int.zero_mul,Int.add_zero]
    rfl
   ·have o:wtL i a1 b1=[⟨(i:Int),a1⟩,⟨((i+1:Nat):Int),b1⟩]:=if_neg g;rw[o];refine Ev.succ ?_;simp only[qbb];refine Ev.tt Z (Ev.bind (Ev.now Z) (Ev.bind (iRow h (i:=i) (w:=a1) (by omega) d W1.il W2 (by omega) (by omega)) (Ev.succ ?_)));simp only[qbb];refine Ev.tt Z (Ev.bind (Ev.now Z) (Ev.bind (iRow h (i:=i+1) (w:=b1) a f (W1.nx (by omega)) W2 (by omega) (by omega)) (Ev.succ ?_)));simp only[qbb];refine Ev.ff Z (Ev.now ?_);unfold sumS;rw[Int.zero_add]
    rfl
  unfold qcX;refine Ev.bind H (Ev.bind I (Ev.bind l ?_));show Ev (fun n=>(qfk n (sumS t i j a1 b1 a2 b2) (W64 ((a1+b1)*(a2+b2))) mode).bind fun r=>V r) _;rw[wO ((a1+b1)*(a2+b2))];exact Ev.bind ⟨0,fun n _=>(qqk (m:=0)).trans (qjo D0 (by unfold sumS;omega) (by unfold sumS;omega))⟩ .done
theorem quk{t:qN}(h:TbOk t)(sl ld:Int):∃S D:Int,0<D/\S<=D*1000000/\-(D*1000000)<=S/\-9000000000000000000<=S/\S<=9000000000000000000/\((∀k,0<=at0 t.Az k)->0<=S) /\
  ∀mode,Ev (fun n=>qfZ n t sl ld mode) (divI S D mode)/\Ev (fun n=>qcX n t sl ld mode) (divI S D mode):=by
 obtain⟨i,a1,b1,W1,_,p⟩:=qoF h.s sl;obtain⟨j,a2,b2,W2,_,a⟩:=qoF h.l ld;exact⟨_,_,quz h W1 W2 p a⟩

theorem qsO{b:qe}(h:blockB b=true){j:Nat}(d:j<(places b.Aa).length){n:Nat}:qjM n b.Ah b.Aa (toSp (gt (places b.Aa) j))=V (capJ b j):=by
 have c:=qao h;unfold capJ pinCap;rcases qjP d with⟨i,k,hi,hk,_,e⟩|⟨i,hi,_,e⟩
 ·rw[e];obtain⟨⟨a,c1⟩,f,_⟩:=qgo c hi;unfold place1 cellAt toSp;simp only[qjM,show decide ((i:Int)<0)=false by simp,cond_false,qD hi,jd,qdV a c1,ju,qD (show k<(gt b.Ah.Aj (gt b.Aa.Ab i).Bn.toNat).As.length by omega)]
 ·rw[e];rfl
theorem qnQ{b:qe}(h:blockB b=true){i:Nat}(hi:i<b.Ac.length):Ev (fun n=>qhd n b (i:Int)) (loadsL b i):=by
 have c:=qbE h hi;have p:=qY (qao h);have x:=c.lo;have u:=c.hi;have d:=c.cap;have z:=qgY h (i:=i);have e1:Ev (fun n=>qdz b (gt b.Ac i) ((places b.Aa).map toSp) (skL b i) n (gt b.Ac i).Bp 0) (ldA b (gt b.Ac i) (skL b i) (skL b i).length,((skL b i).length:Int)):=by
  refine loopF (Lf:=qdz b (gt b.Ac i) ((places b.Aa).map toSp) (skL b i)) (S:=ldA b (gt b.Ac i) (skL b i)) (len:=(skL b i).length) (fun n=>?_) (fun j a X o=>?_)
  ·simp only[qdz,qn (je _),cond_false]
  ·obtain⟨y,l,m,_⟩:=qm4 a;have f:j<(gt b.Ac i).Bc.length:=by rw[c.snk];exact a
   have k:=c.sin j f;have v:=qmE (b:=b) (w:=gt b.Ac i) (sk:=skL b i) (j:=j);have g:idx ((places b.Aa).map toSp) (y:Int)=V (toSp (gt (places b.Aa) y)):=by
    refine qfL ?_;rw[Jd,jk l,qdA l];rfl
   have s:=fun n=>qsO h l (n:=n);simp only[qdz,ql a,cond_true,qaA a,m,jd,qaA f,qdV k.1 (show at0 (gt b.Ac i).Bc j<((ldA b (gt b.Ac i) (skL b i) j).length:Int) by omega),g,s,wS j];have:ldA b (gt b.Ac i) (skL b i) (j+1)=setS (ldA b (gt b.Ac i) (skL b i) j) (at0 (gt b.Ac i).Bc j) (W64 (gt (ldA b (gt b.Ac i) (skL b i) j) (at0 (gt b.Ac i).Bc j).toNat+capJ b y)):=by
    show addSink _ _ _ _ _=_;unfold addSink;rw[m,ju]
   rw[this] at o;exact o
 have r:∀j t,t.length=(gt b.Ac i).Ak.length->j<(gt b.Ac i).Ak.length->Ev (fun n=>qdo (gt b.Ac i) n t (j:Int)) (ldB (gt b.Ac i) j t,0):=by
  intro j
  induction j with
  |zero=>
   intro t _ _;refine Ev.succ ?_;show Ev (fun n=>qdo (gt b.Ac i) (n+1) t 0) _;unfold qdo;exact Ev.ff Z .done
  |succ j ih=>
   intro t A a;have g:=c.par (j+1) (by omega) a;refine Ev.succ ?_;simp only[qdo,show decide (((j+1:Nat):Int) > 0)=true from decide_eq_true (by omega),cond_true,qaA a,jd,qdV g.1 (show at0 (gt b.Ac i).Ak (j+1)<(t.length:Int) by omega),qD (show j+1<t.length by omega),show((j+1:Nat):Int)-1=(j:Int) by omega,qT (show -9223372036854775808<=(j:Int) by omega) (by omega)];exact ih _ (by rw[qaL];exact A) (by omega)
 unfold qhd qel;rw[qD hi];simp only[jd,qbP (show([]:List Int).length+(gt b.Ac i).Bp.length<=2147483648 by simp;omega),List.nil_append];refine Ev.bind (qf1 p) (Ev.bind (qjC p) (Ev.bind e1 ?_));rw[qe9 (show(gt b.Ac i).Bp.length<=9223372036854775807 by omega),show((gt b.Ac i).Bp.length:Int)-1=(((gt b.Ac i).Ak.length-1:Nat):Int) by omega];exact Ev.bind (r _ _ (by rw[qmE];exact d) (by omega)) .done
theorem qmU{b:qe}(h:blockB b=true){i:Nat}(hi:i<b.Ac.length):Ev (fun n=>qgD n b (i:Int)) (delaysL b i):=by
 have f:=qbE h hi;have o:=f.lo;have m:=f.hi;have l:=f.res;have r:=qkI h hi;have c:∀d k,k+1+d=(gt b.Ac i).Ak.length->Ev (fun n=>qdO (gt b.Ac i) (loadsL b i) n (dlL (gt b.Ac i) (loadsL b i) k) ((k+1:Nat):Int)) (delaysL b i,((loadsL b i).length:Int)):=by
  intro d
  induction d with
  |zero=>
   intro k g;refine Ev.succ ?_;simp only[qdO,qn (show(loadsL b i).length<=k+1 by omega),cond_false];refine Ev.now ?_;rw[r,<-g];unfold delaysL;rw[<-g]
   rfl
  |succ d ih=>
   intro k g;have p:=f.par (k+1) (by omega) (by omega);have a:=qmJ (w:=gt b.Ac i) (ld:=loadsL b i) (k:=k);refine Ev.succ ?_;simp only[qdO,ql (show k+1<(loadsL b i).length by omega),cond_true,qaA (show k+1<(gt b.Ac i).Ak.length by omega),jd,qdV p.1 (show at0 (gt b.Ac i).Ak (k+1)<((dlL (gt b.Ac i) (loadsL b i) k).length:Int) by omega),
    qaA (show k+1<(gt b.Ac i).Bt.length by omega),qD (show k+1<(loadsL b i).length by omega),qha (show k+1<9223372036854775807 by omega)]
   rw[qbP (by rw[a,ji];omega)];exact ih (k+1) (by omega)
 unfold qgD;rw[qD hi];simp only[jd];refine Ev.bind (qnQ h hi) ?_;exact Ev.bind (c ((gt b.Ac i).Ak.length-1) 0 (by omega)) .done
theorem qki{b:qe}(h:blockB b=true){i:Nat}(hi:i<b.Ac.length){mode:Int}:Ev (fun n=>qf2 n b (i:Int) mode) ((exactL b i).map fun x=>divI x 1000 mode):=by
 have k:=qbE h hi;have r:(gt b.Ac i).Bc.length<=78:=by rw[k.snk];exact qgY h
 have p:=qlo h hi;have l:Ev (fun n=>qbX b (i:Int) mode (delaysL b i) n ([]:List Int) 0) ((exactL b i).map (fun x=>divI x 1000 mode),((gt b.Ac i).Bc.length:Int)):=by
  refine loopF (Lf:=qbX b (i:Int) mode (delaysL b i)) (S:=fun j=>(((gt b.Ac i).Bc.take j).map fun s=>gt (delaysL b i) s.toNat).map fun x=>divI x 1000 mode) (len:=(gt b.Ac i).Bc.length) (fun n=>?_) (fun j c X o=>?_)
  ·simp only[qbX,qD hi,jd,qn (je _),cond_false,jK];rfl
  ·have g:=k.sin j c;have f:=qme h hi c;have m:gt (exactL b i) j=gt (delaysL b i) (at0 (gt b.Ac i).Bc j).toNat:=by
    unfold exactL;rw[qdA (by rw[jp];exact c),List.getElem_map,qk9 c]
   rw[m] at f;have d:=fun n=>qjo (n:=n) (a:=gt (delaysL b i) (at0 (gt b.Ac i).Bc j).toNat) (b:=1000) (mode:=mode) (by omega) (by omega) (by omega);simp only[qbX,qD hi,jd,ql c,cond_true,qaA c,qdV g.1 (show at0 (gt b.Ac i).Bc j<((delaysL b i).length:Int) by omega),d,wS j];rw[qbP (by rw[jp,jp,Je,ji];omega)];have:(((gt b.Ac i).Bc.take j).map (fun s=>gt (delaysL b i) s.toNat)).map (fun x=>divI x 1000 mode)++[divI (gt (delaysL b i) (at0 (gt b.Ac i).Bc j).toNat) 1000 mode]=(((gt b.Ac i).Bc.take (j+1)).map fun s=>gt (delaysL b i) s.toNat).map fun x=>divI x 1000 mode:=by
    rw[jD c,jJ,jJ,qk9 c];rfl
   rw[this];exact o
 unfold qf2;exact Ev.bind (qmU h hi) (Ev.bind l .done)

instance:Inhabited qx:=⟨⟨0,⟨0,0⟩,⟨0,0⟩⟩⟩
instance:Inhabited qk:=⟨⟨0,0⟩⟩
def cornerB(c:qC):Bool:=(inI c.Bf 100 5000&&(inI c.Bh 100 5000&&(inI c.Bg 100 5000&&inI c.Bj 100 5000)))&&(nameB c.Ba&&(decide (c.Bf<=c.Bh)&&decide (c.Bg<=c.Bj)))
theorem qp8{c:qC}(h:okS c.Ba):Ev (fun n=>qhh n c) (cornerB c):=by
 have a:Ev (fun n=>qcc c n 0) (bif inI c.Bf 100 5000&&(inI c.Bh 100 5000&&(inI c.Bg 100 5000&&inI c.Bj 100 5000)) then .nxt 4 else .ret false):=by
  refine Ev.succ ?_;simp only[qcc,qcI,show idx ([c.Bf,c.Bh,c.Bg,c.Bj]:List Int) 0=V c.Bf from rfl,jd];refine Ev.tt Z ?_;cases inI c.Bf 100 5000
  ·exact .done
  refine Ev.ff Z (Ev.succ ?_);simp only[qcc,qcI,show W64 (0+1)=1 from rfl,show idx ([c.Bf,c.Bh,c.Bg,c.Bj]:List Int) 1=V c.Bh from rfl,jd];refine Ev.tt Z ?_;cases inI c.Bh 100 5000
  ·exact .done
  refine Ev.ff Z (Ev.succ ?_);simp only[qcc,qcI,show W64 (1+1)=2 from rfl,show idx ([c.Bf,c.Bh,c.Bg,c.Bj]:List Int) 2=V c.Bg from rfl,jd];refine Ev.tt Z ?_;cases inI c.Bg 100 5000
  ·exact .done
  refine Ev.ff Z (Ev.succ ?_);simp only[qcc,qcI,show W64 (2+1)=3 from rfl,show idx ([c.Bf,c.Bh,c.Bg,c.Bj]:List Int) 3=V c.Bj from rfl,jd];refine Ev.tt Z ?_;cases inI c.Bj 100 5000
  ·exact .done
  refine Ev.ff Z (Ev.succ ?_);simp only[qcc];exact Ev.ff Z .done
 unfold qhh cornerB;refine Ev.bind a ?_;cases inI c.Bf 100 5000&&(inI c.Bh 100 5000&&(inI c.Bg 100 5000&&inI c.Bj 100 5000))
 ·exact .done
 ·refine Ev.bind (qkm h) ?_;cases nameB c.Ba
  ·exact .done
  ·cases decide (c.Bf<=c.Bh)<;>exact .done
theorem qo6{n:Nat}{a b:Int}:qgj n a b=V (decide (a>=100)&&(decide (a<=b)&&decide (b<=5000))):=by
 unfold qgj;cases decide (a>=100)
 ·rfl
 ·cases decide (a<=b)<;>rfl
theorem qnH{c:qC}(h:okS c.Ba):Ev (fun n=>qgm n c) (cornerB c):=by
 have e:cornerB c=(nameB c.Ba&&((decide (c.Bf>=100)&&(decide (c.Bf<=c.Bh)&&decide (c.Bh<=5000)))&&(decide (c.Bg>=100)&&(decide (c.Bg<=c.Bj)&&decide (c.Bj<=5000))))):=by
  unfold cornerB;rw[jj];simp only[jf,qbd,decide_eq_true_eq];constructor
  ·rintro⟨⟨b,d,f,g⟩,a,i,k⟩;refine⟨a,⟨?_,?_,?_⟩,?_,?_,?_⟩<;>omega
  ·rintro⟨a,⟨b,d,f⟩,g,i,k⟩;refine⟨⟨⟨?_,?_⟩,⟨?_,?_⟩,⟨?_,?_⟩,?_,?_⟩,a,?_,?_⟩<;>omega
 rw[e];unfold qgm;simp only[qnq h,qo6,jd];cases nameB c.Ba
 ·exact .done
 ·cases decide (c.Bf>=100)&&(decide (c.Bf<=c.Bh)&&decide (c.Bh<=5000))<;>exact .done
def spanB(s:qk):Bool:=inI s.Aq (-1000000000) 1000000000&&(inI s.Av (-1000000000) 1000000000&&decide (s.Aq<=s.Av))
def slewB(s:qk):Bool:=decide (s.Aq>=0)&&(decide (s.Aq<=s.Av)&&decide (s.Av<=1000000))
theorem qrO{n:Nat}{s:qk}:qjO n s=V (spanB s):=by
 unfold qjO spanB;simp only[qcI,jd];cases inI s.Aq (-1000000000) 1000000000
 ·rfl
 ·cases inI s.Av (-1000000000) 1000000000<;>rfl
theorem qsF{n:Nat}{s:qk}:qjK n s=V (spanB s):=by
 unfold qjK qjR spanB;simp only[qdP,jd];cases inI s.Aq (-1000000000) 1000000000
 ·rfl
 ·cases inI s.Av (-1000000000) 1000000000<;>rfl

theorem qqi{b:qe}{k:Int}(h:blockB b=true){j:Nat}(c:j<(places b.Aa).length)(l:(gt (places b.Aa) j).net=k)(d:(gt (places b.Aa) j).drives=true):Ev (fun n=>qhS n b.Aa k) (j:Int):=by
 have g:=qao h;have p:=qY g;have t:=qaY p;have e:ixL (fun q:Tl05Place=>(q.net==k)&&q.drives) ((places b.Aa).map toSp)=(j:Int):=by
  refine qs8 (by simpa using c) ?_ (fun i hi m=>?_)
  ·rw[qmf c];show(((gt (places b.Aa) j).net==k)&&(gt (places b.Aa) j).drives)=true;rw[l,d];simp
  ·have f:i<(places b.Aa).length:=by simpa using hi
   rw[qmf f] at m;have a:(((gt (places b.Aa) i).net==k)&&(gt (places b.Aa) i).drives)=true:=m;simp only[jf,beq_iff_eq] at a;exact qqG g f c (by rw[a.1,l]) a.2 d
 unfold qhS;refine Ev.bind (qf1 p) ?_;rw[<-e];exact qfK (fin:=(((places b.Aa).map toSp).length:Int)) (Lf:=qcV k ((places b.Aa).map toSp)) (xs:=(places b.Aa).map toSp) (pf:=fun _ (q:Tl05Place)=>V ((q.net==k)&&q.drives)) (fun _ _=>.done)
  (fun n=>by simp only[qcV,qn (je _),cond_false])
  (fun n j x r=>by
   have c:=(List.getElem?_eq_some_iff.1 r).1;have s:j<(places b.Aa).length:=by simpa using c
   simp only[qcV,ql c,cond_true,qfL r,jd,wS j];cases (x.net==k)<;>cases x.drives<;>rfl)
  (fun n=>by congr 1;funext o;cases o<;>rfl)
theorem qkz{b:qe}{i k:Nat}(h:blockB b=true)(hi:i<b.Aa.Ab.length)(s:k<(gt b.Aa.Ab i).Ai.length):Ev (fun n=>qgc n b.Aa (i:Int) (k:Int)) ((off b.Aa i+k:Nat):Int):=by
 have p:=qao h;have f:=qY p;have u:=qaY f;obtain⟨c,l⟩:=qhF hi s;have e:ixL (fun q:Tl05Place=>(q.instance_==(i:Int))&&(q.pin==(k:Int))) ((places b.Aa).map toSp)=((off b.Aa i+k:Nat):Int):=by
  refine qs8 (by simpa using c) ?_ (fun m t a=>?_)
  ·rw[qmf c,l];unfold place1 toSp;simp
  ·have d:m<(places b.Aa).length:=by simpa using t
   rw[qmf d] at a;rcases qjP d with⟨i',k',hi',hk',em,e'⟩|⟨i',hi',em,e'⟩
   ·rw[e'] at a;unfold place1 toSp at a;simp only[jf,beq_iff_eq] at a;obtain rfl:i'=i:=by omega
    obtain rfl:k'=k:=by omega
    exact em
   ·rw[e'] at a;unfold place2 toSp at a;simp only[jf,beq_iff_eq] at a;omega
 unfold qgc;refine Ev.bind (qf1 f) ?_;rw[<-e];exact qfK (fin:=(((places b.Aa).map toSp).length:Int)) (Lf:=qd3 (i:Int) (k:Int) ((places b.Aa).map toSp)) (xs:=(places b.Aa).map toSp) (pf:=fun _ (q:Tl05Place)=>V ((q.instance_==(i:Int))&&(q.pin==(k:Int)))) (fun _ _=>.done)
  (fun n=>by simp only[qd3,qn (je _),cond_false])
  (fun n j x g=>by
   have c:=(List.getElem?_eq_some_iff.1 g).1;have r:j<(places b.Aa).length:=by simpa using c
   simp only[qd3,ql c,cond_true,qfL g,jd,wS j];cases (x.instance_==(i:Int))<;>cases (x.pin==(k:Int))<;>rfl)
  (fun n=>by congr 1;funext o;cases o<;>rfl)
theorem qpP{n:Nat}{xs:List qu}{f t a c k i:Int}(o:xs.length<=1000000)(l:0<=f)(m:f<=1000000)(p:0<=t)(r:t<=1000000)(b:b01 a)(g:b01 c):qe8 n xs f t a c k i=V (xs++[⟨2*f+a,2*t+c,k,i⟩]):=by
 have d:0<=a/\a<=1:=by rcases b with e|e<;>omega
 have h:0<=c/\c<=1:=by rcases g with e|e<;>omega
 unfold qe8;rw[wO (2*f),wO (2*t),wO (2*f+a),wO (2*t+c),qbP (by rw[ji];omega)]
 rfl
def fitB(a:qak)(i j:Int):Bool:=bif a.Ar==1 then(bif a.Bm==3 then true else(a.Bm==1)==(i==j)) else bif a.Ar==2 then i==0 else bif a.Ar==3 then i==1 else false
def pcL(a:qak)(f t k i j:Int):List qu:=bif fitB a i j then[⟨2*f+i,2*t+j,1,k⟩] else[]
theorem arcStep{arc:qak}{xs:List qu}{f t k i j:Int}{X:List qu×Int}(l:xs.length<=1000000)(c:0<=f)(d:f<=1000000)(m:0<=t)(o:t<=1000000)(hi:b01 i)(b:b01 j)
  (h:Ev (fun n=>qa7 arc f t k i n (xs++pcL arc f t k i j) (j+1)) X):Ev (fun n=>qa7 arc f t k i n xs j) X:=by
 have a:0<=j/\j<=1:=by rcases b with e|e<;>omega
 have g:=fun n=>qpP (n:=n) (k:=1) (i:=k) l c d m o hi b;refine Ev.succ ?_;simp only[qa7,g,jd,wO (j+1)];refine Ev.tt (decide_eq_true a.2) ?_;unfold pcL fitB at h;cases h1:arc.Ar==1
 ·cases h2:arc.Ar==2
  ·cases h3:arc.Ar==3
   ·rw[h1,h2,h3] at h;simpa using h
   ·rw[h1,h2,h3] at h;cases h4:i==1
    ·rw[h4] at h;simpa using h
    ·rw[h4] at h;simpa using h
  ·rw[h1,h2] at h;cases h4:i==0
   ·rw[h4] at h;simpa using h
   ·rw[h4] at h;simpa using h
 ·rw[h1] at h;cases h2:arc.Bm==3
  ·rw[h2] at h;cases h4:(arc.Bm==1)==(i==j)
   ·rw[h4] at h;simpa [h4] using h
   ·rw[h4] at h;simpa [h4] using h
  ·rw[h2] at h;simpa using h
theorem qvq{arc:qak}{xs:List qu}{f t k:Int}(s:xs.length<=900000)(b:0<=f)(c:f<=1000000)(d:0<=t)(g:t<=1000000) :
  Ev (fun n=>qjA n xs arc f t k) (xs++pcL arc f t k 0 0++pcL arc f t k 0 1++pcL arc f t k 1 0++pcL arc f t k 1 1):=by
 have a:∀i j,(pcL arc f t k i j).length<=1:=fun i j=>by unfold pcL;cases fitB arc i j<;>simp
 have h:=a 0 0;have l:=a 0 1;have m:=a 1 0;have o:=a 1 1;have row:∀(i:Int) (ys:List qu),b01 i->ys.length<=900010->Ev (fun n=>qa7 arc f t k i n ys 0) (ys++pcL arc f t k i 0++pcL arc f t k i 1,2):=by
  intro i ys hi u;have r:=a i 0;refine arcStep (by omega) b c d g hi (.inl Z) (arcStep (j:=0+1) (by rw[jg];omega) b c d g hi (.inr Z) (Ev.succ ?_));simp only[qa7];exact Ev.ff Z .done
 have p:Ev (fun n=>qeK arc f t k n xs 0) (xs++pcL arc f t k 0 0++pcL arc f t k 0 1++pcL arc f t k 1 0++pcL arc f t k 1 1,2):=by
  refine Ev.succ ?_;simp only[qeK];refine Ev.tt Z (Ev.bind (row 0 xs (.inl Z) (by omega)) ?_);refine Ev.succ ?_;simp only[qeK];refine Ev.tt Z (Ev.bind (row 1 _ (.inr Z) (by simp only[jg];omega)) ?_);refine Ev.succ ?_;simp only[qeK];exact Ev.ff Z .done
 unfold qjA;exact Ev.bind p .done
theorem qsR{ps:List qaz}{a:qak}(h:arcS ps a=true)(c:a.Ar<=3)(b:1<=a.Ar):(a.Ar=1/\(a.Bm=1\/a.Bm=2\/a.Bm=3))\/a.Ar=2\/a.Ar=3:=by
 rcases (by omega:a.Ar=1\/a.Ar=2\/a.Ar=3) with e|e|e
 ·refine .inl ⟨e,?_⟩;unfold arcS at h;rw[e] at h;simp only[beq_self_eq_true,cond_true,jf,qbd] at h;have:=h.2.2.2.1;omega
 ·exact .inr (.inl e)
 ·exact .inr (.inr e)
theorem qtg{ps:List qaz}{a:qak}{first:Int}{k:Nat}(h:arcS ps a=true)(c:a.Ar<=3)(b:1<=a.Ar) :
  pcL a (first+a.Bb) (first+a.To) (k:Int) 0 0++pcL a (first+a.Bb) (first+a.To) (k:Int) 0 1++pcL a (first+a.Bb) (first+a.To) (k:Int) 1 0++pcL a (first+a.Bb) (first+a.To) (k:Int) 1 1=arcLs first k a:=by
 unfold arcLs transL pcL fitB;rcases qsR h c b with⟨e,e2|e2|e2⟩|e|e
 ·rw[e,e2];rfl
 ·rw[e,e2];rfl
 ·rw[e,e2];rfl
 ·rw[e];rfl
 ·rw[e];rfl
theorem qnJ{a:qak}{first:Int}{k:Nat}(h:3<a.Ar):arcLs first k a=[]:=by
 unfold arcLs transL;rw[show(a.Ar==2)=false from beq_eq_false_iff_ne.2 (by omega),show(a.Ar==3)=false from beq_eq_false_iff_ne.2 (by omega),show(a.Ar != 1)=true from bne_iff_ne.2 (by omega)]
 rfl
theorem qlj{b:qe}(h:blockB b=true):Ev (fun n=>qgn n b) (linksL b):=by
 have v:=qao h;have z:=qY v;have hl:=qaY z;have hni:=z.ni;have hnn:=z.nn;have J:=qkK h;have p:(⟨b.Aa.Ab,b.Aa.Ai,b.Aa.Af⟩:qh)=b.Aa:=rfl;have e1:Ev (fun n=>qdx b n ([]:List qu) 0) (instLs b b.Aa.Ab.length,(b.Aa.Ab.length:Int)):=by
  refine loopF (Lf:=qdx b) (S:=instLs b) (len:=b.Aa.Ab.length) (fun n=>?_) (fun j m X g=>?_)
  ·simp only[qdx,qn (je _),cond_false]
  ·obtain⟨⟨Q,c1⟩,r,l⟩:=qgo v m;have M:=qie l;have s:=(qfo (qgO l)).1;have H:=qim h (show j<=b.Aa.Ab.length by omega);have O:=qix (d:=b.Aa) (i:=j);have hof:off b.Aa (j+1)<=78:=by
    rw[qfR] at hl;have:=qpR (d:=b.Aa) (show j+1<=b.Aa.Ab.length by omega);omega
   have F:cellAt b (j:Int)=gt b.Ah.Aj (gt b.Aa.Ab j).Bn.toNat:=rfl;simp only[qdx,ql m,cond_true,qD m,qdV Q c1,jd,wS j];have C:Ev (fun n=>qcL b (j:Int) (cellAt b (j:Int)) n (instLs b j) 0) (instLs b (j+1),((cellAt b (j:Int)).Ap.length:Int)):=by
    rw[show instLs b (j+1)=instLs b j++cellLs (cellAt b (j:Int)) (off b.Aa j:Int) (cellAt b (j:Int)).Ap.length from qi5];rw[<-F] at l r M s;generalize cellAt b (j:Int)=c at l r M s⊢;have:=loopF (Lf:=qcL b (j:Int) c) (S:=fun k=>instLs b j++cellLs c (off b.Aa j:Int) k) (len:=c.Ap.length) (fin:=(instLs b j++cellLs c (off b.Aa j:Int) c.Ap.length,(c.Ap.length:Int))) (fun n=>by simp only[qcL,qn (je _),cond_false])
     (fun k o X g=>by
      obtain⟨⟨k1,k5⟩,N,I,Y⟩:=qhE l o;have e:(cellLs c (off b.Aa j:Int) k).length<=4*k:=qno fun _ _=>qne;have A:cellLs c (off b.Aa j:Int) (k+1)=cellLs c (off b.Aa j:Int) k++arcLs (off b.Aa j:Int) k (gt c.Ap k):=qi5;rw[A] at g;simp only[qcL,ql o,cond_true,qD o,jd,wS k,p];by_cases B:(gt c.Ap k).Ar<=3
      ·refine Ev.tt (decide_eq_true B) ?_;have K:=qkz h m (k:=(gt c.Ap k).Bb.toNat) (by omega);have L:=qkz h m (k:=(gt c.Ap k).To.toNat) (by omega);rw[<-qgT N.1] at K;rw[<-qgT I.1] at L;refine Ev.bind K (Ev.bind L (Ev.bind (qvq (by rw[jg];omega) (by omega) (by omega) (by omega) (by omega)) ?_));have u:∀x:Int,0<=x->((off b.Aa j+x.toNat:Nat):Int)=(off b.Aa j:Int)+x:=fun x hx=>by omega
       rw[u _ N.1,u _ I.1,jt,jt,jt,<-jt (pcL _ _ _ _ _ _),<-jt (pcL _ _ _ _ _ _++_),qtg Y B k1,jt];exact g
      ·refine Ev.ff (decide_eq_false B) ?_;rw[qnJ (by omega),List.append_nil] at g;exact g)
    simpa [cellLs,fm] using this
   exact Ev.bind C g
 have D:∀(i:Nat) (t:List qu),i<b.Ac.length->t.length<=900000->Ev (fun n=>qdr (dvN b.Aa i:Int) (skL b i) n t 0) (t++wlN b i (skL b i).length,((skL b i).length:Int)):=by
  intro i t hi I;have hsm:=qgY h (i:=i);have a3:=(qiD v (k:=i) (by omega)).1;have:=loopF (Lf:=qdr (dvN b.Aa i:Int) (skL b i)) (S:=fun k=>t++wlN b i k) (len:=(skL b i).length) (fin:=(t++wlN b i (skL b i).length,((skL b i).length:Int))) (fun n=>by simp only[qdr,qn (je _),cond_false])
   (fun k o X g=>by
    obtain⟨y,hy,ey,_⟩:=qm4 o;have hwn:=qqe (b:=b) (i:=i) (j:=k);have p1:=fun n=>qpP (n:=n) (xs:=t++wlN b i k) (f:=(dvN b.Aa i:Int)) (t:=at0 (skL b i) k) (a:=0) (c:=0) (k:=2) (i:=(k:Int)) (by rw[jg];omega) (by omega) (by omega) (by omega) (by omega) (.inl Z) (.inl Z);have p2:=fun n=>qpP (n:=n) (xs:=t++wlN b i k++[⟨2*(dvN b.Aa i:Int)+0,2*at0 (skL b i) k+0,2,(k:Int)⟩]) (f:=(dvN b.Aa i:Int)) (t:=at0 (skL b i) k) (a:=1) (c:=1) (k:=2) (i:=(k:Int)) (by rw[jg,jg,ji];omega) (by omega) (by omega) (by omega) (by omega) (.inr Z) (.inr Z);simp only[qdr,ql o,cond_true,qaA o,jd,p1,p2,wS k];have A:wlN b i (k+1)=wlN b i k++wl1 (dvN b.Aa i) (at0 (skL b i) k) k:=qi5;rw[A] at g;rw[Int.add_zero,Int.add_zero,jt,jt];exact g)
  simpa [wlN,fm] using this
 have u:Ev (fun n=>qdv b n (instLs b b.Aa.Ab.length) 0) (linksL b,(b.Aa.Ai.length:Int)):=by
  have H:=qim h (je _);have:=loopF (Lf:=qdv b) (S:=fun j=>instLs b b.Aa.Ab.length++wireLs b j) (len:=b.Aa.Ai.length) (fin:=(linksL b,(b.Aa.Ai.length:Int))) (fun n=>by
    simp only[qdv,qn (je _),cond_false];rw[<-J];rfl)
   (fun j m X g=>by
    have P:=qmm h (j:=j);obtain⟨R,d2⟩:=qiD v m;obtain⟨T,W⟩:=qmM.1 d2;simp only[qdv,ql m,cond_true,wS j,p];refine Ev.bind (qqi h R T W) (Ev.bind (qjC z) (Ev.bind (D j _ (by omega) (by rw[jg];omega)) ?_));rw[jt,show wireLs b j++wlN b j (skL b j).length=wireLs b (j+1) from qi5.symm];exact g)
  simpa [wireLs,fm] using this
 unfold qgn;exact Ev.bind e1 (Ev.bind u .done)
def lvB(br:List Int)(m:Nat):List Bool:=pre (fun k=>!br.any fun y=>y==(k:Int)) m
theorem qp2{br:List Int}{m:Nat}:(lvB br m).length=m:=qhm
theorem qsM{br:List Int}{x:Int}(d:br.length<=1048576):Ev (fun n=>qjF n br x) (br.any fun y=>y==x):=by
 have b:Ev (fun n=>qeF br x n 0) (bif br.any (fun y=>y==x) then .ret true else .nxt (br.length:Int)):=by
  have:=qfp (Lf:=qeF br x) (len:=br.length) (f:=fun j=>!(gt br j==x)) (bad:=true) (fin:=.nxt (br.length:Int)) (Ev.succ (by simp only[qeF,qn (je _),cond_false];exact .done))
   (fun j a X c=>Ev.succ (by
    simp only[qeF,ql a,cond_true,qD a,jd,wS j];cases gt br j==x
    ·exact c
    ·exact .done))
  rw[qrk];refine this.cast ?_;cases allN (fun j=>!(gt br j==x)) br.length<;>rfl
 unfold qjF;refine Ev.bind b ?_;cases br.any (fun y=>y==x)<;>exact .done
theorem qrf{ls:List qu}{br:List Int}(g:ls.length<=10000)(a:br.length<=1048576):Ev (fun n=>qi1 n ls br) (lvB br ls.length):=by
 have b:Ev (fun n=>qd4 ls br n ([]:List Bool) 0) (lvB br ls.length,(ls.length:Int)):=by
  refine loopF (Lf:=qd4 ls br) (S:=fun j=>lvB br j) (len:=ls.length) (fun n=>?_) (fun j d X c=>?_)
  ·simp only[qd4,qn (je _),cond_false]
  ·simp only[qd4,ql d,cond_true,wS j];refine Ev.bind (qsM a) ?_;have e:appS (lvB br j) [!br.any fun y=>y==(j:Int)]=V (lvB br (j+1)):=qmS (f:=fun k:Nat=>!br.any fun y=>y==(k:Int)) (by omega);rw[e];exact c
 unfold qi1;exact Ev.bind b .done
def brB(br:List Int)(m:Nat):Bool:=(br.all fun x=>inI x 0 ((m:Int)-1))&&incB br
theorem qoA{v:Tview}{br:List Int}(A:v.links.length<=10000)(h:brB br v.links.length=true):Ev (fun n=>qgw n (V v) br) (V ⟨V v,lvB br v.links.length⟩):=by
 unfold brB at h;rw[jf,qhM,qaI] at h;have u:mkS (v.links.length:Int) false=V (pre (fun _=>false) v.links.length):=qm2 (by omega);generalize hM:v.links.length=M at A h u⊢;have m:∀j i,i<j->j<br.length->gt br i<gt br j:=by
  intro j
  induction j with
  |zero=>intro i hi _;omega
  |succ j ih=>
   intro i hi b;have c:=h.2;unfold incB at c;rw[qaI] at c;have c:=c (j+1) b;unfold stepB at c;simp only[Bool.or_eq_true,decide_eq_true_eq,Nat.add_sub_cancel] at c;have s:gt br j<gt br (j+1):=by
    rcases c with c|c
    ·omega
    ·exact c
   by_cases r:i=j
   ·rw[r];exact s
   ·have:=ih i (by omega) (by omega);omega
 have o:∀j,j<br.length->(j:Int)<=gt br j:=by
  intro j
  induction j with
  |zero=>
   intro b;have:=h.1 0 b;rw[qbd] at this;omega
  |succ j ih=>
   intro b;have:=ih (by omega);have:=m (j+1) j (by omega) b;omega
 have C:br.length<=M:=by
  by_cases D:br.length=0
  ·omega
  ·have F:=o (br.length-1) (by omega);have B:=h.1 (br.length-1) (by omega);rw[qbd] at B;omega
 have e1:Ev (fun n=>qb7 (pre (fun _=>false) M) n (pre (fun _=>false) M) 0) (pre (fun _=>true) M,(M:Int)):=by
  have:=loopF (Lf:=qb7 (pre (fun _=>false) M)) (S:=fun j=>pre (fun k=>decide (k<j)) M) (len:=M) (fin:=(pre (fun _=>true) M,(M:Int))) (fun n=>by
    simp only[qb7,qhm,qn (je _),cond_false];rw[qe1 (g:=fun _=>true) fun k d=>decide_eq_true d])
   (fun j b X l=>by
    simp only[qb7,qhm,ql b,cond_true,qhU (f:=fun k=>decide (k<j)) b,jd,qlP,wS j];have:pre (fun k=>decide (k<j+1)) M=pre (fun k=>if k=j then true else decide (k<j)) M:=qe1 fun k _=>by
     by_cases d:k=j
     ·rw[if_pos d,d];simp
     ·rw[if_neg d,decide_eq_decide];omega
    rw[this] at l;exact l)
  simpa using this
 have z:Ev (fun n=>qb4 br n (pre (fun _=>true) M) 0) (lvB br M,(br.length:Int)):=by
  have:=loopF (Lf:=qb4 br) (S:=fun j=>pre (fun k=>!(br.take j).any fun y=>y==(k:Int)) M) (len:=br.length) (fin:=(lvB br M,(br.length:Int))) (fun n=>by
    simp only[qb4,qn (je _),cond_false,jK];rfl)
   (fun j b X l=>by
    have x:=h.1 j b;rw[qbd] at x;obtain⟨a,t⟩:∃a:Nat,gt br j=(a:Int):=⟨_,qgT x.1⟩;have p:a<M:=by omega
    simp only[qb4,ql b,cond_true,qD b,t,qhU (f:=fun k=>!(br.take j).any fun y=>y==(k:Int)) p,jd,qlP,wS j];have:pre (fun k=>!(br.take (j+1)).any fun y=>y==(k:Int)) M=pre (fun k=>if k=a then false else !(br.take j).any fun y=>y==(k:Int)) M:=qe1 fun k _=>by
     rw[jD b,List.any_append,<-qdA b,t];by_cases d:k=a
     ·rw[if_pos d,d];simp
     ·rw[if_neg d];have:((a:Int)==(k:Int))=false:=by simp;omega
      simp[this]
    rw[this] at l;exact l)
  simpa using this
 unfold qgw;simp only[jd,hM,u];exact Ev.bind e1 (Ev.bind z .done)
theorem qsK{br:List Int}{m:Nat}(h:br.length<=1048576)(i:m<=10000):Ev (fun n=>qh0 n br (m:Int)) (brB br m):=by
 have g:Ev (fun n=>qcl br (m:Int) n 0) (bif allN (fun j=>inI (gt br j) 0 ((m:Int)-1)&&stepB br j) br.length then .nxt (br.length:Int) else .ret false):=by
  refine qfp (Lf:=qcl br (m:Int)) (len:=br.length) (Ev.succ (by simp only[qcl,qn (je _),cond_false];exact .done)) (fun j d X c=>Ev.succ ?_);simp only[qcl,ql d,cond_true,qD d,jd,qcI,wS j,wO ((m:Int)-1)];cases h1:inI (gt br j) 0 ((m:Int)-1)
  ·exact .done
  ·refine Ev.ff Z ?_;by_cases b:j=0
   ·subst b;exact Ev.ff Z c
   ·refine Ev.tt (decide_eq_true (by omega)) ?_;rw[show(j:Int)-1=((j-1:Nat):Int) by omega,qT (by omega) (by omega),qD (show j-1<br.length by omega)];simp only[jd];have f:stepB br j=decide (gt br (j-1)<gt br j):=by
     unfold stepB;rw[decide_eq_false b,Bool.false_or]
     rfl
    rw[f];by_cases a:gt br (j-1)<gt br j
    ·rw[decide_eq_true a];exact Ev.ff (decide_eq_false (by omega)) c
    ·rw[decide_eq_false a];exact Ev.tt (decide_eq_true (by omega)) .done
 unfold qh0;refine Ev.bind g ?_;unfold brB incB;rw[qhM,<-qkb];cases allN (fun j=>inI (gt br j) 0 ((m:Int)-1)&&stepB br j) br.length<;>exact .done
theorem qqp{v:Tview}{br:List Int}(a:br.length<=1048576)(b:v.links.length<=10000):Ev (fun n=>qeH n (V v) br) (brB br v.links.length):=by
 unfold qeH qgq brB;simp only[jd,wO ((v.links.length:Int)-1)];exact Ev.and (qga a) fun _=>Ev.last (qkU a)
theorem qrc{b:qe}{br:List Int}(a:qiw b)(h:blockB b=true)(c:br.length<=1048576):Ev (fun n=>qhT n b br) (bif brB br (linksL b).length then 0 else 2):=by
 unfold qhT;refine Ev.bind (qjI a) (Ev.ff (by rw[h];rfl) (Ev.bind (qlj h) (Ev.bind (qsK c (qkp h)) ?_)));cases brB br (linksL b).length<;>exact .done

theorem qqb{α:Type}{f:Nat->List α}{n:Nat}{x:α}(h:x∈fm f n):∃j,j<n/\x∈f j:=by
 unfold fm at h;obtain⟨j,a,b⟩:=List.mem_flatMap.1 h;exact⟨j,List.mem_range.1 a,b⟩
theorem qrS{x:Int}{j:Nat}{t:Int}(b:b01 t)(d:j<=100000)(e:x=2*(j:Int)+t):W64 (x.tdiv 2)=(j:Int)/\x.tmod 2=t:=by
 have c:0<=t/\t<=1:=by rcases b with e|e<;>omega
 have a:0<=x:=by omega
 rw[jB a,Int.tmod_eq_emod_of_nonneg a,qT (by omega) (by omega)];omega
structure CLk(b:qe)(x:qu)(i j m net a:Nat):Prop where
 kind:x.Ar=1
 il:i<b.Aa.Ab.length
 jl:j<(places b.Aa).length
 inst:(gt (places b.Aa) j).instance_=(i:Int)
 net_:(gt (places b.Aa) j).net=(net:Int)
 nl:net<b.Ac.length
 half:W64 (x.To.tdiv 2)=(j:Int)
 mod:x.To.tmod 2=(m:Int)
 ml:m<2
 ix:x.Bv=(a:Int)
 al:a<(cellAt b (i:Int)).Ap.length
 d2:(gt (cellAt b (i:Int)).Ap a).Bi.length=2
 s2:(gt (cellAt b (i:Int)).Ap a).Ay.length=2
 dt:∀t,t∈(gt (cellAt b (i:Int)).Ap a).Bi->TbOk t/\∀k,0<=at0 t.Az k
 st:∀t,t∈(gt (cellAt b (i:Int)).Ap a).Ay->TbOk t/\∀k,0<=at0 t.Az k
 k3:(gt (cellAt b (i:Int)).Ap a).Ar<=3
structure WLk(b:qe)(x:qu)(j net k:Nat):Prop where
 kind:x.Ar=2
 jl:j<(places b.Aa).length
 net_:(gt (places b.Aa) j).net=(net:Int)
 nl:net<b.Ac.length
 half:W64 (x.To.tdiv 2)=(j:Int)
 ix:x.Bv=(k:Int)
 kl:k<(gt b.Ac net).Bc.length
theorem qvg{xs:List Int}(h:0<=mnL xs)(k:Nat):0<=at0 xs k:=by
 have b:∀(ys:List Int) (a:Int),(ys.foldl (fun(m y:Int)=>if y<m then y else m) a<=a)/\∀y,y∈ys->ys.foldl (fun(m y:Int)=>if y<m then y else m) a<=y:=by
  intro ys
  induction ys with
  |nil=>intro a;exact⟨jT _,fun y g=>by cases g⟩
  |cons z ys ih=>
   intro a;rw[List.foldl_cons];obtain⟨i,l⟩:=ih (if z<a then z else a);refine⟨?_,fun y g=>?_⟩
   ·split at i<;>split<;>omega
   ·rcases List.mem_cons.1 g with e|e
    ·subst e;split at i<;>split<;>omega
    ·exact l y e
 by_cases d:k<xs.length
 ·have f:xs[k]∈xs.drop 1\/k=0:=by
   by_cases c:k=0
   ·exact .inr c
   ·refine .inl ?_;have:xs[k]=(xs.drop 1)[k-1]'(by rw[List.length_drop];omega):=by
     rw[List.getElem_drop]
     congr 1;omega
    rw[this];exact jo _
  rw[qk9 d];unfold mnL at h;rcases f with f|c
  ·exact Int.le_trans h ((b _ _).2 _ f)
  ·subst c;have:=(b (xs.drop 1) (at0 xs 0)).1;rw[<-qk9 d];exact Int.le_trans h this
 ·rw[qr5 d];exact jT _
theorem qoZ{a:List qN}(h:tablesB a true=true):a.length=2/\∀t,t∈a->TbOk t/\∀k,0<=at0 t.Az k:=by
 unfold tablesB at h;rw[jf,decide_eq_true_eq,jW] at h;refine⟨h.1,fun t b=>?_⟩;have:=h.2 t b;unfold tabB at this;simp only[jV,Bool.false_or,jf,decide_eq_true_eq] at this;exact⟨qsq this.1,qvg this.2⟩
theorem qri{ps:List qaz}{a:qak}(h:arcS ps a=true)(c:a.Ar<=3)(b:1<=a.Ar):a.To=(ps.length:Int)-1/\tablesB a.Bi true=true/\tablesB a.Ay true=true:=by
 unfold arcS at h;rcases (by omega:a.Ar=1\/a.Ar=2\/a.Ar=3) with e|e|e
 ·rw[e] at h;simp only[beq_self_eq_true,cond_true,jf,beq_iff_eq] at h;exact⟨h.2.2.1,h.2.2.2.2⟩
 ·rw[e] at h;simp only[show((2:Int)==1)=false from rfl,cond_false,beq_self_eq_true,Bool.true_or,cond_true,jf,beq_iff_eq] at h;exact⟨h.2.2.1,h.2.2.2.2⟩
 ·rw[e] at h;simp only[show((3:Int)==1)=false from rfl,cond_false,beq_self_eq_true,Bool.or_true,cond_true,jf,beq_iff_eq] at h;exact⟨h.2.2.1,h.2.2.2.2⟩
theorem qq0{a:qak}{t:qab}(h:t∈transL a):1<=a.Ar/\a.Ar<=3:=by
 refine⟨?_,?_⟩<;>refine Int.le_of_not_gt fun b=>?_
 ·have:arcLs 0 0 a=[]:=by
   unfold arcLs transL;rw[show(a.Ar==2)=false from beq_eq_false_iff_ne.2 (by omega),show(a.Ar==3)=false from beq_eq_false_iff_ne.2 (by omega),show(a.Ar != 1)=true from bne_iff_ne.2 (by omega)]
   rfl
  unfold arcLs at this;rw[List.map_eq_nil_iff] at this;rw[this] at h;cases h
 ·have:arcLs 0 0 a=[]:=qnJ b;unfold arcLs at this;rw[List.map_eq_nil_iff] at this;rw[this] at h;cases h
theorem qf3{b:qe}(h:blockB b=true){x:qu}(c:x∈linksL b):((∃i j m net a,CLk b x i j m net a)\/∃j net k,WLk b x j net k)/\(0<=x.Bb/\x.Bb<2*((places b.Aa).length:Int))/\(0<=x.To/\x.To<2*((places b.Aa).length:Int)):=by
 have l:=qao h;have P:=qY l;have hl:=qaY P;have S:=qkK h;unfold linksL at c;rcases List.mem_append.1 c with c|c
 ·obtain⟨i,hi,c⟩:=qqb c;obtain⟨a,B,c⟩:=qqb c;unfold arcLs at c;obtain⟨t,g,rfl⟩:=List.mem_map.1 c;obtain⟨⟨c0,c1⟩,u,f⟩:=qgo l hi;have r:cellAt b (i:Int)=gt b.Ah.Aj (gt b.Aa.Ab i).Bn.toNat:=rfl;rw[<-r] at u f;obtain⟨⟨k1,k5⟩,hf,Q,L⟩:=qhE f B;obtain⟨K,A⟩:=qq0 g;obtain⟨X,o⟩:=qps g;obtain⟨F,Y,tS⟩:=qri L A K;obtain⟨d2,dt⟩:=qoZ Y;obtain⟨s2,st⟩:=qoZ tS;have O:=(qfo (qgO f)).1;have n:(cellAt b (i:Int)).As.length-1<(gt b.Aa.Ab i).Ai.length:=by omega
  obtain⟨C,H⟩:=qhF hi n;obtain⟨W,n1⟩:=qkO l C;have e1:(al1 (off b.Aa i:Int) a (gt (cellAt b (i:Int)).Ap a) t).To=2*((off b.Aa i+((cellAt b (i:Int)).As.length-1):Nat):Int)+t.e1:=by
   show 2*((off b.Aa i:Int)+(gt (cellAt b (i:Int)).Ap a).To)+t.e1=_;rw[F];omega
  obtain⟨s,D⟩:=qrS o (by omega) e1;obtain⟨m,I⟩:∃m:Nat,t.e1=(m:Int):=⟨t.e1.toNat,by rcases o with e|e<;>omega⟩;have N:off b.Aa i+(gt (cellAt b (i:Int)).Ap a).Bb.toNat<(places b.Aa).length:=(qhF hi (k:=(gt (cellAt b (i:Int)).Ap a).Bb.toNat) (by omega)).1;have p:(al1 (off b.Aa i:Int) a (gt (cellAt b (i:Int)).Ap a) t).Bb=2*((off b.Aa i:Int)+(gt (cellAt b (i:Int)).Ap a).Bb)+t.e0:=rfl;refine⟨.inl ⟨i,_,m,(gt (places b.Aa) (off b.Aa i+((cellAt b (i:Int)).As.length-1))).net.toNat,a,⟨rfl,hi,C,by rw[H];rfl,qgT W,by omega,s,by rw[D,I],by rcases o with e|e<;>omega,rfl,B,d2,s2,dt,st,A⟩⟩,?_,?_⟩
  ·rw[p];rcases X with e|e<;>rw[e]<;>omega
  ·rw[e1];rcases o with e|e<;>rw[e]<;>omega
 ·obtain⟨i,hi,c⟩:=qqb c;obtain⟨k,n,c⟩:=qqb c;obtain⟨y,T,J,v⟩:=qm4 n;have M:=(qiD l (k:=i) (by omega)).1;have R:=qbE h hi;have z:(gt (places b.Aa) y).net=(i:Int):=by
   unfold snkQ at v;simp only[jf,beq_iff_eq] at v;exact v.1
  have d:∀t:Int,b01 t->x=⟨2*(dvN b.Aa i:Int)+t,2*at0 (skL b i) k+t,2,(k:Int)⟩->((∃i j m net a,CLk b x i j m net a)\/∃j net k,WLk b x j net k)/\(0<=x.Bb/\x.Bb<2*((places b.Aa).length:Int))/\(0<=x.To/\x.To<2*((places b.Aa).length:Int)):=by
   intro t g e;have e1:x.To=2*(y:Int)+t:=by rw[e,J]
   have p:x.Bb=2*(dvN b.Aa i:Int)+t:=by rw[e]
   obtain⟨s,D⟩:=qrS g (by omega) e1;refine⟨.inr ⟨y,i,k,⟨by rw[e],T,z,hi,s,by rw[e],by rw[R.snk];exact n⟩⟩,?_,?_⟩
   ·rw[p];rcases g with e|e<;>rw[e]<;>omega
   ·rw[e1];rcases g with e|e<;>rw[e]<;>omega
  unfold wl1 at c;simp only[jI,jz,or_false] at c;rcases c with c|c
  ·exact d 0 (.inl Z) (by rw[c,Int.add_zero,Int.add_zero])
  ·exact d 1 (.inr Z) c
theorem qiQ{α:Type}[Inhabited α]{xs:List α}{k:Nat}(h:k<xs.length):gt xs k∈xs:=by rw[qdA h];exact jo h
theorem qj5{b:qe}(h:blockB b=true):LkOk (linksL b) (2*(places b.Aa).length) where
 len:=qkp h
 nodes:=by have:=qaY (qY (qao h));omega
 fr0:=fun x a=>(qf3 h (qiQ a)).2.1.1
 fr1:=fun x a=>by have:=(qf3 h (qiQ a)).2.1.2;omega
 to0:=fun x a=>(qf3 h (qiQ a)).2.2.1
 to1:=fun x a=>by have:=(qf3 h (qiQ a)).2.2.2;omega
theorem qlQ{c:qC}(h:cornerB c=true){kind mode:Int}:∃f:Int,100<=f/\f<=5000/\(∀n,qgC n c kind mode=V f)/\∀n,qeI n c kind mode=V f:=by
 unfold cornerB at h;simp only[jf,qbd,decide_eq_true_eq] at h;obtain⟨⟨a,b,d,g⟩,_⟩:=h;unfold qgC qeI;cases kind==1
 ·cases mode==0
  ·exact⟨_,g.1,g.2,fun _=>rfl,fun _=>rfl⟩
  ·exact⟨_,d.1,d.2,fun _=>rfl,fun _=>rfl⟩
 ·cases mode==0
  ·exact⟨_,b.1,b.2,fun _=>rfl,fun _=>rfl⟩
  ·exact⟨_,a.1,a.2,fun _=>rfl,fun _=>rfl⟩
theorem qmI{p f mode:Int}(h:0<=p)(p1:p<=400000000000)(c:0<=f)(g:f<=5000):(∀n,qcH n (W64 (p*f)) 1000 mode=V (divI (p*f) 1000 mode))/\∀n,qjp n p f mode=V (divI (p*f) 1000 mode):=by
 have i:=jS h c;have k:p*f<=400000000000*5000:=Ja p1 g c (by omega);have e:W64 (p*f)=p*f:=qT (by omega) (by omega);have d:=fun n=>qjo (n:=n) (a:=p*f) (b:=1000) (mode:=mode) (by omega) (by omega) (by omega);refine⟨fun n=>by rw[e];exact d n,fun n=>?_⟩;unfold qjp;rw[e,qqk (m:=0),d 0]
 rfl
theorem qt2{l h H:Int}(c:0<=l)(d:l<h)(f:h<=H)(g:H<=3000000000):W64 (W64 (W64 (l+h)+1) |>.tdiv 2)=(l+h+1) / 2/\W64 ((l+h+1) / 2*((l+h+1) / 2))=(l+h+1) / 2*((l+h+1) / 2)/\W64 ((l+h+1) / 2-1)=(l+h+1) / 2-1:=by
 have a:0<=(l+h+1) / 2/\(l+h+1) / 2<=3000000000:=by omega
 have i:(l+h+1) / 2*((l+h+1) / 2)<=3000000000*3000000000:=Ja a.2 a.2 a.1 (by omega);have b:=jS a.1 a.1;rw[wO (l+h),wO (l+h+1),jB (by omega),wO ((l+h+1) / 2),wO ((l+h+1) / 2-1)];exact⟨rfl,qT (by omega) (by omega),rfl⟩
theorem qsX{y mode:Int}(k:0<=y)(r:y<=4000000000000000000):∃v,IsRoot y v/\v<=2000000000/\Ev (fun n=>qh1 n y mode) (if mode=1/\v*v<y then v+1 else v):=by
 obtain⟨v,r1,f,p⟩:=qpq (Lf:=fun n l h=>qd7 y n l h) (fin:=fun l=>(l,l)) (x:=y) (H:=2000000000) k (by omega) (by omega)
  (fun n l _ _=>by simp only[qd7,show decide (l<l)=false from decide_eq_false (Int.lt_irrefl l),cond_false])
  (fun n l h a b m=>by
   obtain⟨e1,g,i⟩:=qt2 a b m (by omega);simp only[qd7,decide_eq_true b,cond_true,e1,g,i])
 refine⟨v,r1,f,?_⟩;unfold qh1;refine Ev.bind p ?_;have d:=r1.pos;have s:v*v<=2000000000*2000000000:=Ja f f d (by omega);have o:=jS d d;simp only[wO (v*v),wO (v+1)];by_cases c:mode=1
 ·refine Ev.tt (by simpa using c) ?_;by_cases a:v*v<y
  ·rw[if_pos ⟨c,a⟩];exact Ev.tt (decide_eq_true a) .done
  ·rw[if_neg fun h=>a h.2];exact Ev.ff (decide_eq_false a) .done
 ·rw[if_neg fun h=>c h.1];exact Ev.ff (by simpa using c) .done
theorem qtG{y:Int}(d:0<=y)(m:y<=4000000000000000000):∃v,IsRoot y v/\v<=3000000000/\Ev (fun n=>qlO n y) v:=by
 obtain⟨v,r1,i,k⟩:=qpq (Lf:=fun n l h=>qfX y n l h) (fin:=fun l=>(l,l)) (x:=y) (H:=3000000000) d (by omega) (by omega)
  (fun n l _ _=>by simp only[qfX,show decide (l<l)=false from decide_eq_false (Int.lt_irrefl l),cond_false])
  (fun n l h g a f=>by
   obtain⟨e1,b,c⟩:=qt2 g a f (by omega);simp only[qfX,decide_eq_true a,cond_true,e1,b,c])
 refine⟨v,r1,i,?_⟩;unfold qlO;exact Ev.bind k .done
theorem qr8{sl d mode:Int}(s0:0<=sl)(s1:sl<=1000000)(g:0<=d)(l:d<=344000000)(o:mode=0\/mode=1):∃r:Int,0<=r/\(∃v,IsRoot (4*(250000*(sl*sl)+d*d)) v/\v<=2000000000/\r=divI (if mode=1/\v*v<4*(250000*(sl*sl)+d*d) then v+1 else v) 1000 mode) /\
  Ev (fun n=>(qh1 n (W64 (W64 (W64 (1000000*sl)*sl)+W64 (W64 (4*d)*d))) mode).bind fun z=>(qcH n z 1000 mode).bind fun A=>V A) r/\Ev (fun n=>qiq n sl d mode) r:=by
 have I:=jS s0 s0;have J:sl*sl<=1000000*1000000:=Ja s1 s1 s0 (by omega);have K:=jS g g;have L:d*d<=344000000*344000000:=Ja l l g (by omega);have e1:W64 (W64 (W64 (1000000*sl)*sl)+W64 (W64 (4*d)*d))=4*(250000*(sl*sl)+d*d):=by
  rw[wO (1000000*sl),wO (4*d),Jc 1000000,Jc 4,wO (1000000*(sl*sl)),wO (4*(d*d)),qT (by omega) (by omega)];omega
 have s:W64 (W64 (W64 (W64 (500*sl)*500)*sl)+W64 (d*d))=250000*(sl*sl)+d*d:=by
  rw[wO (500*sl),wO (500*sl*500),show 500*sl*500*sl=250000*(sl*sl) by rw[<-Jc];congr 1;omega,wO (250000*(sl*sl)),wO (d*d),qT (by omega) (by omega)]
 obtain⟨v,k,B,C⟩:=qsX (mode:=mode) (y:=4*(250000*(sl*sl)+d*d)) (by omega) (by omega);obtain⟨w,w1,p,D⟩:=qtG (y:=250000*(sl*sl)+d*d) (by omega) (by omega);have x:=qrd w1 k o;have H:=k.pos;have f:=w1.pos;have a:0<=(if mode=1/\v*v<4*(250000*(sl*sl)+d*d) then v+1 else v)/\(if mode=1/\v*v<4*(250000*(sl*sl)+d*d) then v+1 else v)<=1000*3000000:=by split<;>omega
 refine⟨_,(qmY (b:=1000) (mode:=mode) (M:=3000000) (by omega) a.1 a.2).1,⟨v,k,B,rfl⟩,?_,?_⟩
 ·rw[e1];exact Ev.bind C (Ev.bind ⟨0,fun n _=>qjo (by omega) (by omega) (by omega)⟩ .done)
 ·rw[x];unfold qiq;rw[s];refine Ev.bind D ?_;have F:w*w<=3000000000*3000000000:=Ja p p f (by omega);have u:=jS f f;have t:(fun n=>qfk n w 500 mode)=fun _=>V (divI w 500 mode):=by
   funext n
   rw[qqk (m:=0),qjo (by omega) (by omega) (by omega)]
  have i:=congrFun t;simp only[wO (w*w),jB f,wO (w / 500),wO (w / 500+1),i,jd];rcases o with rfl|rfl
  ·rw[if_neg (by omega)];exact .done
  ·by_cases c:w*w<250000*(sl*sl)+d*d
   ·rw[if_pos ⟨rfl,c⟩,decide_eq_true c];exact .done
   ·rw[if_neg fun h=>c h.2,decide_eq_false c];exact .done
theorem qoj{t:qN}(h:TbOk t/\∀k,0<=at0 t.Az k)(sl ld mode:Int):∃r:Int,0<=r/\r<=1000000/\Ev (fun n=>qfZ n t sl ld mode) r/\Ev (fun n=>qcX n t sl ld mode) r:=by
 obtain⟨S,D,D0,S1,_,_,_,S0,a⟩:=quk h.1 sl ld;obtain⟨b,r1⟩:=qmY (mode:=mode) D0 (S0 h.2) S1;exact⟨_,b,r1,a mode⟩
theorem qrl{b:qe}{ex:List Int}{x:qu}{j net:Nat}(jl:j<(places b.Aa).length)(c:(gt (places b.Aa) j).net=(net:Int))(a:W64 (x.To.tdiv 2)=(j:Int))(n:Nat):qeU n (V (viewE b ex)) x=V (net:Int):=by
 unfold qeU;show(idx (places b.Aa) (W64 (x.To.tdiv 2))).bind _=_;rw[a,qD jl];exact congrArg V c
theorem qty{b:qe}{ex:List Int}(h:blockB b=true){x:qu}{i j m net a:Nat}(c:CLk b x i j m net a)(n:Nat):qgk n (V (viewE b ex)) x=V (gt (cellAt b (i:Int)).Ap a):=by
 obtain⟨⟨d,c1⟩,_,_⟩:=qgo (qao h) c.il;unfold qgk;show(idx (places b.Aa) (W64 (x.To.tdiv 2))).bind (fun f=>(idx b.Aa.Ab f.instance_).bind fun g=>(idx b.Ah.Aj g.Bn).bind fun k=>(idx k.Ap x.Bv).bind fun l=>V l)=_;rw[c.half,qD c.jl,jd,c.inst,qD c.il,jd,qdV d c1,jd,c.ix];show(idx (cellAt b (i:Int)).Ap (a:Int)).bind _=_;rw[qD c.al];rfl
theorem qm3{b:qe}(h:blockB b=true){x:qu}{i j m net a:Nat}(c:CLk b x i j m net a):Ev (fun n=>qiz n b x) (gt (cellAt b (i:Int)).Ap a,load0 b net):=by
 have d:=qao h;have s:=qY d;obtain⟨⟨f,c1⟩,_,_⟩:=qgo d c.il;have r:idx ((places b.Aa).map toSp) (j:Int)=V (toSp (gt (places b.Aa) j)):=by
  refine qfL ?_;rw[Jd,jk c.jl,qdA c.jl];rfl
 have o:=qkI h c.nl;have p:=(qbE h c.nl).lo;have g:(toSp (gt (places b.Aa) j)).instance_=(i:Int):=c.inst;have k:(toSp (gt (places b.Aa) j)).net=(net:Int):=c.net_;have l:idx (gt b.Ah.Aj (gt b.Aa.Ab i).Bn.toNat).Ap (a:Int)=V (gt (cellAt b (i:Int)).Ap a):=qD c.al;unfold qiz;refine Ev.bind (qf1 s) ?_;simp only[c.half,r,jd,g,k,qD c.il,qdV f c1,c.ix,l];refine Ev.bind (qnQ h c.nl) ?_;rw[show idx (loadsL b net) (0:Int)=V (load0 b net) from qD (j:=0) (by omega)];exact .done
theorem qm1{b:qe}(h:blockB b=true){x:qu}{j net k:Nat}(a:WLk b x j net k):Ev (fun n=>qiH n b x) (net:Int):=by
 have f:=qY (qao h);have d:idx ((places b.Aa).map toSp) (j:Int)=V (toSp (gt (places b.Aa) j)):=by
  refine qfL ?_;rw[Jd,jk a.jl,qdA a.jl];rfl
 have c:(toSp (gt (places b.Aa) j)).net=(net:Int):=a.net_;unfold qiH;refine Ev.bind (qf1 f) ?_;simp only[a.half,d,jd,c];exact .done
theorem qpX{b:qe}{c:qC}(ex:List Int)(h:blockB b=true)(K:cornerB c=true){k:Nat}(L:k<(linksL b).length){sl mode:Int}(s0:0<=sl)(s1:sl<=1000000)(W:mode=0\/mode=1) :
  (∃D:Int,Ev (fun n=>qbf n b c (gt (linksL b) k) sl mode) D/\Ev (fun n=>qbp n (V (viewE b ex)) c (k:Int) sl mode) D) /\
  ∃S:Int,0<=S/\S<=1000000/\Ev (fun n=>qed n b (gt (linksL b) k) sl mode) S/\Ev (fun n=>qbz n (V (viewE b ex)) (k:Int) sl mode) S:=by
 have t:idx (viewE b ex).links (k:Int)=V (gt (linksL b) k):=qD L;obtain⟨d,_⟩:=qf3 h (qiQ L);generalize gt (linksL b) k=x at d t;rcases d with⟨i,j,m,net,a,d⟩|⟨j,net,q,d⟩
 ·have l:=qrl (ex:=ex) d.jl d.net_ d.half;have o:=qty (ex:=ex) h d;have s:idx (viewE b ex).loads (net:Int)=V (load0 b net):=qhU (f:=load0 b) d.nl;obtain⟨f,R,z,F,C⟩:=qlQ K (kind:=x.Ar) (mode:=mode);have dl:m<(gt (cellAt b (i:Int)).Ap a).Bi.length:=by rw[d.d2];exact d.ml
  have H:m<(gt (cellAt b (i:Int)).Ap a).Ay.length:=by rw[d.s2];exact d.ml
  obtain⟨r,e,r1,rs,ri⟩:=qoj (d.dt _ (qiQ dl)) sl (load0 b net) mode;obtain⟨u,N,u1,J,I⟩:=qoj (d.st _ (qiQ H)) sl (load0 b net) mode;obtain⟨c1,y⟩:=qmI (mode:=mode) e (by omega) (show 0<=f by omega) z;have g:(x.Ar==1)=true:=by rw[d.kind];rfl
  refine⟨⟨divI (r*f) 1000 mode,?_,?_⟩,⟨u,N,u1,?_,?_⟩⟩
  ·unfold qbf;refine Ev.tt g (Ev.bind (qm3 h d) ?_);simp only[d.mod,qD dl,jd,F];exact Ev.bind rs (Ev.bind ⟨0,fun n _=>c1 n⟩ .done)
  ·unfold qbp;simp only[jd,t,l,s,o,d.mod,qD dl,C];exact Ev.tt g (Ev.bind ri (Ev.bind ⟨0,fun n _=>y n⟩ .done))
  ·unfold qed;refine Ev.tt g (Ev.bind (qm3 h d) ?_);simp only[d.mod,qD H,jd];exact Ev.bind J .done
  ·unfold qbz;simp only[jd,t,l,s,o,d.mod,qD H];refine Ev.tt g (Ev.bind I (Ev.now ?_));rw[if_neg (by omega)]
 ·have l:=qrl (ex:=ex) d.jl d.net_ d.half;have p:idx (viewE b ex).delays (net:Int)=V (exactL b net):=qhU (f:=exactL b) d.nl;have A:(exactL b net).length=(gt b.Ac net).Bc.length:=by unfold exactL;rw[jp]
  have v:q<(exactL b net).length:=by rw[A];exact d.kl
  obtain⟨O,x1⟩:=qme h d.nl d.kl;obtain⟨f,R,z,F,C⟩:=qlQ K (kind:=x.Ar) (mode:=mode);have P:=fun n=>qjo (n:=n) (a:=gt (exactL b net) q) (b:=1000) (mode:=mode) (by omega) (by omega) (by omega);obtain⟨Y,p1⟩:=qmY (a:=gt (exactL b net) q) (b:=1000) (mode:=mode) (M:=344000) (by omega) O (by omega);obtain⟨c1,y⟩:=qmI (mode:=mode) Y (by omega) (show 0<=f by omega) z;have g:(x.Ar==1)=false:=by rw[d.kind];rfl
  have hi:idx ((exactL b net).map fun x=>divI x 1000 mode) (q:Int)=V (divI (gt (exactL b net) q) 1000 mode):=by
   rw[qD (by rw[jp];exact v),qmf v]
  obtain⟨u,N,_,J,I⟩:=qr8 s0 s1 O x1 W;refine⟨⟨divI (divI (gt (exactL b net) q) 1000 mode*f) 1000 mode,?_,?_⟩,⟨if u<1000000 then u else 1000000,by split<;>omega,by split<;>omega,?_,?_⟩⟩
  ·unfold qbf;refine Ev.ff g (Ev.bind (qm1 h d) (Ev.bind (qki h d.nl) ?_));simp only[d.ix,hi,jd,F];exact Ev.bind ⟨0,fun n _=>c1 n⟩ .done
  ·unfold qbp;simp only[jd,t,l,p,d.ix,qD v,C];refine Ev.ff g (Ev.bind (b:=divI (gt (exactL b net) q) 1000 mode) ⟨0,fun n _=>(qqk (m:=0)).trans (P 0)⟩ (Ev.bind ⟨0,fun n _=>y n⟩ .done))
  ·have X:=qbE h d.nl;have B:=X.sin q d.kl;have T:=qlo h d.nl;have Q:gt (exactL b net) q=gt (delaysL b net) (at0 (gt b.Ac net).Bc q).toNat:=by
    unfold exactL;rw[qdA (by rw[jp];exact d.kl),List.getElem_map,qk9 d.kl]
   unfold qed qks;refine Ev.ff g (Ev.bind (qm1 h d) ?_);simp only[d.ix,qD d.nl,jd,qaA d.kl];refine Ev.bind (b:=u) (Ev.bind (qmU h d.nl) ?_) .done;rw[qdV B.1 (show at0 (gt b.Ac net).Bc q<((delaysL b net).length:Int) by omega)];simp only[jd];rw[<-Q];exact J
  ·unfold qbz;simp only[jd,t,l,p,d.ix,qD v];refine Ev.ff g (Ev.bind I (Ev.now ?_))
   congr 1
   split<;>split<;>omega
theorem qmQ{b:qe}{c:qC}(h:blockB b=true)(g:cornerB c=true){k:Nat}(i:k<(linksL b).length){sl mode:Int}(s0:0<=sl)(s1:sl<=1000000)(l:mode=0\/mode=1) :
  (∃D:Int,Ev (fun n=>qbf n b c (gt (linksL b) k) sl mode) D/\∀ex,Ev (fun n=>qbp n (V (viewE b ex)) c (k:Int) sl mode) D) /\
  ∃S:Int,0<=S/\S<=1000000/\Ev (fun n=>qed n b (gt (linksL b) k) sl mode) S/\∀ex,Ev (fun n=>qbz n (V (viewE b ex)) (k:Int) sl mode) S:=by
 obtain⟨⟨D,m,_⟩,⟨S,a,c',d,_⟩⟩:=qpX [] h g i s0 s1 l;refine⟨⟨D,m,fun ex=>?_⟩,⟨S,a,c',d,fun ex=>?_⟩⟩
 ·obtain⟨⟨D',e1,f⟩,_⟩:=qpX ex h g i s0 s1 l;rw[m.uniq e1];exact f
 ·obtain⟨_,⟨S',_,_,e1,f⟩⟩:=qpX ex h g i s0 s1 l;rw[d.uniq e1];exact f
end Go.Fw
