/- The plain law, text S4: facts about tokens. No program is in sight. -/
import Derived.Test.YtnielafbkgpgjaaGreatDoorX15
import Derived.Lib.Bytealg
import Derived.Lib.Strings
set_option linter.all false
set_option maxRecDepth 100000
set_option maxHeartbeats 8000000
namespace Go.Awp.Sp
theorem zG {c:UInt8} {r:Bs} (h:(c == 47)=true):1<=WR (c::r):=by
 have:c=47:=by simpa using h
 subst this;simp[WR]
theorem QXw (l:Bs):WR l<=l.length:=(List.takeWhile_sublist _).length_le
theorem uH {p:Nat} {ds:Bs} {im:Bool} {r:Bs} {x:Tok × Nat} (h:XZ p ds im r = .ok x):∃ z,r.head?.any QU=false/\numOf ds im=some z/\(⟨2,if im then ds++[105] else ds,z,p⟩,ds.length+(if im then 1 else 0))=x:=by
 unfold XZ at h;by_cases h1:r.head?.any QU=true
 ·rw[if_pos h1] at h;cases h
 ·rw[if_neg h1] at h;cases h2:numOf ds im with
  | none=>rw[h2] at h;cases h
  | some z=>rw[h2] at h;exact⟨z,by simpa using h1,rfl,Except.ok.inj h⟩
theorem Vy {p:Nat} {l:Bs} {t:Tok} {n:Nat} (h:Wx p l = .ok (t,n)):1<=n/\n<=l.length/\t.text=l.take n/\t.place=p/\(t.kind=1∨t.kind=2∨t.kind=3):=by
 have tw:∀ (q:UInt8->Bool) (l:Bs),l.takeWhile q=l.take (l.takeWhile q).length:=fun q l=>by
  induction l with
  | nil=>rfl
  | cons x l ih=>by_cases hx:q x=true<;>simp[hx];exact ih
 have twl:∀ (q:UInt8->Bool) (l:Bs),(l.takeWhile q).length<=l.length:=fun q l=>(List.takeWhile_sublist _).length_le;unfold Wx at h;split at h
 ·cases h
 ·rename_i c r;split at h
  ·rename_i hc;cases h;have hw:QU c=true:=by simp[QU,hc]
   exact⟨by simp[hw],twl _ _,tw _ _,rfl,.inl rfl⟩
  ·split at h
   ·rename_i hd;obtain⟨z,_,_,h⟩:=uH h;have hlen1:1<=((c::r).takeWhile Qs).length:=by simp[hd]
    obtain⟨rfl,rfl⟩:=Prod.mk.inj h;by_cases him:(((c::r).drop ((c::r).takeWhile Qs).length).head? == some 105)=true
    ·simp only[him,if_true];have e1:((c::r).drop ((c::r).takeWhile Qs).length).head? = some 105:=by simpa using him
     rw[List.head?_drop] at e1;obtain⟨hlt,he⟩:=List.getElem?_eq_some_iff.1 e1;refine⟨by omega,by omega,?_,trivial,.inr (.inl trivial)⟩;rw[List.take_add_one,e1,<- tw];rfl
    ·simp only[him,Bool.false_eq_true,if_false,Nat.add_zero];exact⟨hlen1,twl _ _,tw _ _,trivial,.inr (.inl trivial)⟩
   ·split at h
    ·cases h;refine⟨by split<;>omega,?_,rfl,rfl,.inr (.inr rfl)⟩;split
     ·rename_i hh;cases r with
      | nil=>simp at hh
      | cons=>simp
     ·simp
    ·cases h
theorem UR:∀ (f f' p:Nat) (l:Bs),l.length<f->l.length<f'->lexL f p l=lexL f' p l
 | 0,_,_,_,h,_=>by omega
 | _,0,_,_,_,h=>by omega
 | f+1,f' + 1,p,[],_,_=>rfl
 | f+1,f' + 1,p,c::r,h,h'=>by
   simp only[List.length_cons] at h h';rw[lexL,lexL];split
   ·exact UR f f' _ _ (by omega) (by omega)
   ·split
    ·rename_i hn;have h1:=zG (c:=c) (r:=r) (by simp only[Bool.and_eq_true] at hn;exact hn.1);exact UR f f' _ _ (by simp only[List.length_drop,List.length_cons];omega) (by simp only[List.length_drop,List.length_cons];omega)
    ·split
     ·rfl
     ·rename_i t n ht;have h1:=(Vy ht).1;rw[UR f f' _ _ (by simp only[List.length_drop,List.length_cons];omega) (by simp only[List.length_drop,List.length_cons];omega)]
def app (ts:List Tok):Except Er (List Tok)->Except Er (List Tok)
 | .ok us=>.ok (ts++us)
 | .error e=>.error e
theorem app_nil (r:Except Er (List Tok)):app [] r=r:=by cases r<;>rfl
theorem ZU (ts:List Tok) (t:Tok) (r:Except Er (List Tok)):app ts (match r with|.error e=>.error e|.ok us=>.ok (t::us))=app (ts++[t]) r:=by
 cases r<;>simp[app]
def Xd (s:Bs) (i:Nat):Except Er (List Tok):=lexL (s.length+1) i (s.drop i)
theorem jX (s:Bs):Xd s 0=lexS s:=rfl
theorem wY (s:Bs):Xd s s.length = .ok [⟨0,[],⟨0,0⟩,s.length⟩]:=by
 unfold Xd;rw[List.drop_length];rfl
theorem Zk {s:Bs} {i:Nat} {c:UInt8} (h:s[i]? = some c):s.drop i=c::s.drop (i+1):=by
 obtain⟨hlt,he⟩:=List.getElem?_eq_some_iff.1 h;rw[List.drop_eq_getElem_cons hlt,he]
theorem VQ {s:Bs} {i j:Nat} (h:i<s.length) (hj:i<j):lexL s.length j (s.drop j)=Xd s j:=by
 unfold Xd;exact UR _ _ _ _ (by simp;omega) (by simp;omega)
theorem Us {s:Bs} {i:Nat} {c:UInt8} (h:s[i]? = some c) (hb:(c == 32||c == 10||c == 9)=true):Xd s i=Xd s (i+1):=by
 have hlt:=(List.getElem?_eq_some_iff.1 h).1
 conv=>lhs;unfold Xd
 rw[Zk h,lexL,if_pos hb,VQ hlt (Nat.lt_succ_self i)]
theorem jY {s:Bs} {i:Nat} {c:UInt8} (h:s[i]? = some c) (hb:(c == 32||c == 10||c == 9)=false) (hn:(c == 47&&(s.drop (i+1)).head? == some 47)=true):
 Xd s i=Xd s (i+WR (s.drop i))/\1<=WR (s.drop i):=by
 have hlt:=(List.getElem?_eq_some_iff.1 h).1;have h1:1<=WR (c::s.drop (i+1)):=zG (by simp only[Bool.and_eq_true] at hn;exact hn.1);have hd:=Zk h;refine⟨?_,by rw[hd];exact h1⟩
 conv=>lhs;unfold Xd
 rw[hd,lexL,if_neg (by rw[hb];simp),if_pos hn,<- hd,List.drop_drop,VQ hlt (by rw[hd];omega)]
theorem WN {s:Bs} {i:Nat} {c:UInt8} (h:s[i]? = some c) (hb:(c == 32||c == 10||c == 9)=false) (hn:(c == 47&&(s.drop (i+1)).head? == some 47)=false):
 Xd s i=match Wx i (s.drop i) with
  | .error e=>.error e
  | .ok (t,n)=>match Xd s (i+n) with|.error e=>.error e|.ok us=>.ok (t::us):=by
 have hlt:=(List.getElem?_eq_some_iff.1 h).1;have hd:=Zk h
 conv=>lhs;unfold Xd
 rw[hd,lexL,if_neg (by rw[hb];simp),if_neg (by rw[hn];simp),<- hd];cases ht:Wx i (s.drop i) with
 | error e=>rfl
 | ok x=>
   obtain⟨t,n⟩:=x;have h1:=(Vy ht).1;simp only;rw[List.drop_drop,VQ hlt (by omega)];cases Xd s (i+n)<;>rfl
end Go.Awp.Sp
namespace Go.Awp.R1
open Go Go.Awp Go.Proofs Go.Awp.Sp
def Qu (z:Cx):V:=.cplx .f64 (fz z.re) (fz z.im)
def Qg (t:Tok):V:=.agg [.int .i64 t.kind,.str (bs t.text),.cplx .f64 (fz t.num.re) (fz t.num.im),.int .i64 t.place]
def Zs (l:Bs):V:=match Wx 0 l with
 | .ok (t,n)=>.tup [.int .i64 t.kind,.int .i64 n,Qu t.num,.int .i64 0]
 | .error (_,e)=>.tup [.int .i64 0,.int .i64 0,Qu ⟨0,0⟩,.int .i64 e]
theorem fz0:fz 0=0:=WZ
theorem signs2 (c:UInt8) (r:Bs):(Lib.hasPrefix (c::r) [61,61]||Lib.hasPrefix (c::r) [33,61])=((c == 61||c == 33)&&r.head? == some 61):=by
 cases r with
 | nil=>simp[Lib.hasPrefix,List.isPrefixOf]
 | cons d r=>
   have e:(some d == some (61:UInt8))=(d == 61):=rfl;simp only[Lib.hasPrefix,List.isPrefixOf,Bool.and_true,List.head?_cons,e];rw[show ((61:UInt8) == c)=(c == 61) from BEq.comm,show ((33:UInt8) == c)=(c == 33) from BEq.comm,show ((61:UInt8) == d)=(d == 61) from BEq.comm];cases (c == 61)<;>cases (c == 33)<;>cases (d == 61)<;>rfl
theorem signs1 (c:UInt8):decide (0<=Lib.indexByte [40,41,123,125,91,93,59,44,61,33,60,43,45,42,126,35] c)=YG c:=by
 have:=zo (fun c=>decide (0<=Lib.indexByte [40,41,123,125,91,93,59,44,61,33,60,43,45,42,126,35] c) == YG c) (by decide +kernel) c;simpa using this
theorem u8_back (c:UInt8):((c.toNat:Int).toNat).toUInt8=c:=by simp
theorem VV (ds:Bs) (c:UInt8):Qt (ds++[c])=10*Qt ds+(c.toNat - 48):=by simp[Qt]
theorem decF (ds:Bs) (h:∀ c∈ds,Qs c=true):∀ acc:Nat,ds.foldl (fun n c=>10*n+(c.toNat - 48)) acc<(acc+1)*10 ^ ds.length:=by
 induction ds with
 | nil=>intro acc;simp
 | cons c ds ih=>
   intro acc;have hc:Qs c=true:=h c (by simp);rw[<- XY] at hc;simp[Xa] at hc;have:=ih (fun c hc=>h c (by simp[hc])) (10*acc+(c.toNat - 48));rw[List.foldl_cons,List.length_cons,Nat.pow_succ];refine Nat.lt_of_lt_of_le this ?_;have:10*acc+(c.toNat - 48)+1<=(acc+1)*10:=by omega
   calc (10*acc+(c.toNat - 48)+1)*10 ^ ds.length<=(acc+1)*10*10 ^ ds.length:=Nat.mul_le_mul_right _ this
    _=_:=by ac_rfl
theorem wy (ds:Bs) (h:∀ c∈ds,Qs c=true):Qt ds<10 ^ ds.length:=by
 have:=decF ds h 0;simpa[Qt] using this
theorem QOq {p:UInt8->Bool} {x:UInt8}:∀ {l:Bs},x∈l.takeWhile p->p x=true
 | y::l,h=>by
   by_cases hy:p y=true
   ·rw[List.takeWhile_cons,if_pos hy] at h;rcases List.mem_cons.1 h with rfl|h
    ·exact hy
    ·exact QOq h
   ·rw[List.takeWhile_cons,if_neg hy] at h;cases h
theorem tw_get {p:UInt8->Bool} {l:Bs} {i:Nat} (h:i<(l.takeWhile p).length):∃ c,l[i]? = some c/\p c=true/\(l.takeWhile p)[i]? = some c:=by
 have hm:=List.getElem_mem h;have hp:=QOq hm;refine⟨_,?_,hp,List.getElem?_eq_getElem h⟩;have:=(List.takeWhile_prefix p (l:=l)).getElem h;rw[List.getElem?_eq_getElem (Nat.lt_of_lt_of_le h (List.takeWhile_prefix p).length_le),this]
theorem Token_ok (l:Bs) (c:UInt8) (r:Bs) (hcr:l=c::r) (hl:l.length<=1000000000000):Ql TC 74 [encS l] (Zs l):=by
 refine ent Tryz.func74 fun L K hL hR hN hP=>?_;have fin:∀ s k n z e,Qf TC.P s [.tmp 2,.tmp 3,.tmp 4,.tmp 5]=some [.int .i64 k,.int .i64 n,Qu z,.int .i64 e]->Zs l = .tup [.int .i64 k,.int .i64 n,Qu z,.int .i64 e]->K .ret s:=fun s k n z e h1 h2=>hR _ (.pures h1 (by simp) (by rw[h2];exact .refl _));have hx0:l[0]? = some c:=by rw[hcr];rfl
 simp[hx0];refine Qc (jd c true) ?_;rcases hw:QX c<;>simp
 case true=>
  refine Qc (long_ok l false hl) ?_;simp;exact fin _ _ _ ⟨0,0⟩ _ (by rw[Qu,fz0];rfl) (by simp[hcr,Zs,Wx,hw])
 have hlong:=long_ok l true hl;simp only[if_true] at hlong;refine Qc hlong ?_;clear hlong;have hzero:Qs c=false->(l.takeWhile Qs).length=0:=fun h=>by rw[hcr,List.takeWhile_cons,if_neg (by rw[h];simp)];rfl
 have hpos:Qs c=true->0<(l.takeWhile Qs).length:=fun h=>by rw[hcr,List.takeWhile_cons,if_pos h];simp
 rcases hd:Qs c
 case false=>
  have hz:=hzero hd;simp[hz];refine Qc (Ua l [61,61]) ?_;have h2:=signs2 c r;rw[<- hcr] at h2;have two:∀ s,((c == 61||c == 33)&&r.head? == some 61)=true->Qf TC.P s [.tmp 2,.tmp 3,.tmp 4,.tmp 5]=some [.int .i64 3,.int .i64 2,.cplx .f64 0 0,.int .i64 0]->K .ret s:=fun s h3 h4=>by
   refine fin s 3 2 ⟨0,0⟩ 0 (by rw[Qu,fz0];exact h4) ?_;have hs:YG c=true:=by
    simp only[Bool.and_eq_true,Bool.or_eq_true,beq_iff_eq] at h3;rcases h3.1 with rfl|rfl<;>decide
   simp[hcr,Zs,Wx,hw,hd,hs] at h3 ⊢;simp[h3]
  rcases h3:Lib.hasPrefix l [61,61]<;>simp
  case true=>exact two _ (by rw[<- h2,h3];rfl) rfl
  refine Qc (Ua l [33,61]) ?_;rcases h4:Lib.hasPrefix l [33,61]<;>simp
  case true=>exact two _ (by rw[<- h2,h3,h4];rfl) rfl
  rw[h3,h4] at h2;have h5:=wH [40,41,123,125,91,93,59,44,61,33,60,43,45,42,126,35] c.toNat;rw[u8_back] at h5;simp[hx0];refine Qc h5 ?_;simp;simp only[signs1 c];rcases hs:YG c<;>simp
  ·exact fin _ _ _ ⟨0,0⟩ _ (by rw[Qu,fz0];rfl) (by simp[hcr,Zs,Wx,hw,hd,hs,WE])
  ·refine fin _ _ _ ⟨0,0⟩ _ (by rw[Qu,fz0];rfl) ?_;have h2:((c == 61||c == 33)&&r.head? == some 61)=false:=h2.symm;simp only[hcr,Zs,Wx,hw,hd,hs,List.tail_cons,h2];simp
 have hp:=hpos hd;have hres:Zs l=match XZ 0 (l.takeWhile Qs) ((l.drop (l.takeWhile Qs).length).head? == some 105) (if ((l.drop (l.takeWhile Qs).length).head? == some 105)=true then (l.drop (l.takeWhile Qs).length).tail else l.drop (l.takeWhile Qs).length) with
  | .ok (t,n)=>.tup [.int .i64 t.kind,.int .i64 n,Qu t.num,.int .i64 0]
  | .error (_,e)=>.tup [.int .i64 0,.int .i64 0,Qu ⟨0,0⟩,.int .i64 e]:=by
  simp only[hcr,Zs,Wx,hw,hd];simp
 have hhead:(l.takeWhile Qs).head? = some c:=by rw[hcr,List.takeWhile_cons,if_pos hd];rfl
 have hdig:∀ i,i<(l.takeWhile Qs).length->∃ c,l[i]? = some c/\Qs c=true/\(l.takeWhile Qs)[i]? = some c:=fun i h=>tw_get h;have hall:∀ c∈l.takeWhile Qs,Qs c=true:=fun c hc=>QOq hc;have hnl:(l.takeWhile Qs).length<=l.length:=(List.takeWhile_sublist _).length_le;generalize hds:l.takeWhile Qs=ds at *;clear hds hzero hpos;obtain⟨im,him⟩:∃ im,im=(l[ds.length]? == some 105):=⟨_,rfl⟩
 obtain⟨w,hwd⟩:∃ w,w=(l[ds.length+if im=true then 1 else 0]?).any QU:=⟨_,rfl⟩
 have hres:Zs l=if w=true then .tup [.int .i64 0,.int .i64 0,Qu ⟨0,0⟩,.int .i64 1] else match numOf ds im with
  | none=>.tup [.int .i64 0,.int .i64 0,Qu ⟨0,0⟩,.int .i64 6]
  | some z=>.tup [.int .i64 2,.int .i64 ((ds.length+(if im=true then 1 else 0):Nat):Int),Qu z,.int .i64 0]:=by
  rw[hres,List.head?_drop,<- him];have e:(if im=true then (l.drop ds.length).tail else l.drop ds.length).head? = l[ds.length+if im=true then 1 else 0]?:=by
   cases im<;>simp
  simp only[XZ,e,<- hwd];cases w
  ·simp only[Bool.false_eq_true,if_false];cases numOf ds im<;>rfl
  ·rfl
 have hpI:(0:Int)<ds.length:=by omega
 have hn0:numOf ds im=if 7<ds.length∨(1<ds.length∨im=true)/\c=48 then none else if 1048576<Qt ds then none else some (if im then ⟨0,Qt ds⟩ else ⟨Qt ds,0⟩):=by
  unfold numOf;rw[hhead];simp
 have w48:((c.toNat:Int) == 48)=(c == 48):=by
  have:=zo (fun c=>((c.toNat:Int) == 48) == (c == 48)) (by decide +kernel) c;simpa using this
 have w105:∀ d:UInt8,((d.toNat:Int) == 105)=(d == 105):=fun d=>by
  have:=zo (fun d=>((d.toNat:Int) == 105) == (d == 105)) (by decide +kernel) d;simpa using this
 have bad:w=true->∀ s,Qf TC.P s [.tmp 2,.tmp 3,.tmp 4,.tmp 5]=some [.int .i64 0,.int .i64 0,.cplx .f64 0 0,.int .i64 1]->K .ret s:=fun h s hs=>by
  refine fin s 0 0 ⟨0,0⟩ 1 (by rw[Qu,fz0];exact hs) ?_;rw[hres,if_pos h]
 have nonum:w=false->numOf ds im=none->∀ s,Qf TC.P s [.tmp 2,.tmp 3,.tmp 4,.tmp 5]=some [.int .i64 0,.int .i64 0,.cplx .f64 0 0,.int .i64 6]->K .ret s:=fun h h2 s hs=>by
  refine fin s 0 0 ⟨0,0⟩ 6 (by rw[Qu,fz0];exact hs) ?_;rw[hres,h,h2];rfl
 have num:w=false->∀ z,numOf ds im=some z->∀ s,Qf TC.P s [.tmp 2,.tmp 3,.tmp 4,.tmp 5]=some [.int .i64 2,.int .i64 ((ds.length+(if im=true then 1 else 0):Nat):Int),Qu z,.int .i64 0]->K .ret s:=fun h z h2 s hs=>by
  refine fin s _ _ z _ hs ?_;rw[hres,h,h2];rfl
 clear hres;cases im
 ·simp only[Bool.false_eq_true,if_false,Nat.add_zero] at hwd num;rcases hN:l[ds.length]? with _|d
  ·have hge:¬ (ds.length:Int)<l.length:=by have:=List.getElem?_eq_none_iff.1 hN;omega
   have hwf:w=false:=by rw[hwd,hN];rfl
   simp[hp,hge];have hwf2:w=false:=hwf;by_cases q7:7<ds.length
   ·have q7I:(7:Int)<ds.length:=by omega
    simp[q7I];exact nonum hwf2 (by rw[hn0];simp[q7]) _ rfl
   have q7I:¬ (7:Int)<ds.length:=by omega
   have hgt:(ds.length:Int)<(ds.length:Int)+1:=by omega
   have hdb:∀ k,Qt (ds.take k)<10000000:=fun k=>by
    have h1:=wy (ds.take k) fun c hc=>hall c (List.mem_of_mem_take hc);have h2:(ds.take k).length<=7:=by simp;omega
    exact Nat.lt_of_lt_of_le h1 (Nat.pow_le_pow_right (by decide) h2)
   by_cases q1:1<ds.length<;>by_cases q48:c=48
   all_goals
    have q48I:((c.toNat:Int) == 48)=decide (c=48):=by rw[w48];rfl
    have q1I:((1:Int)<ds.length)=(1<ds.length):=by simp;omega
    simp[q7I,q1,q1I,q48,q48I,hx0]
    first
    | exact nonum hwf2 (by rw[hn0];simp[q1,q48]) _ rfl
    | refine QB (α:=Nat) (fun k=>k<=ds.length) (fun k=>[(0,encS l),(6,.int .i64 ds.length),(7,.int .i64 ds.length),(8,.int .i64 (Qt (ds.take k):Nat)),(63,.int .i64 ds.length),(64,.int .i64 k)]) (fun _=>[]) (fun k=>ds.length - k) 0 (by simp) (Qb (by simp[Qt]) (by simp) (by simp)) ?_
      rintro k L1 K1 hk hL1 - hnext hex hrt - -;simp;refine Qv.mk (fun hb=>?_) fun hb=>?_
      ·have hlt:k<ds.length:=by simpa using hb
       obtain⟨e,he1,he2,he3⟩:=hdig k hlt;have hts:ds.take (k+1)=ds.take k++[e]:=by rw[List.take_add_one,he3];rfl
       have hb1:=hdb k;rw[<- XY] at he2;have he2:48<=e.toNat/\e.toNat<=57:=by simp[Xa] at he2;omega
       have hds1:((Qt (ds.take (k+1)):Nat):Int)=10*(Qt (ds.take k):Nat)+((e.toNat:Int) - 48):=by rw[hts,VV];omega
       have v1:IntKind.i64.wrap (10*((Qt (ds.take k):Nat):Int))=10*(Qt (ds.take k):Nat):=wrap_i64 (by omega) (by omega);have v2:IntKind.u8.wrap ((e.toNat:Int) - 48)=(e.toNat:Int) - 48:=wrap_u8 (by omega) (by omega);have v3:IntKind.i64.wrap ((e.toNat:Int) - 48)=(e.toNat:Int) - 48:=wrap_i64 (by omega) (by omega);have v4:IntKind.i64.wrap (10*((Qt (ds.take k):Nat):Int)+((e.toNat:Int) - 48))=10*(Qt (ds.take k):Nat)+((e.toNat:Int) - 48):=wrap_i64 (by omega) (by omega);simp[he1,v1,v2,v3,v4,wr1 k (by omega)];exact hnext _ (k+1) (by omega) (by omega) (Qb (by simp[hds1]) (by simp) (by simp))
      ·refine hex _ _ ?_;have hkn:¬ k<ds.length:=by simpa using hb
       have hkk:ds.take k=ds:=List.take_of_length_le (by omega);have hfin:QV (Qt ds:Nat):=by have:=hdb ds.length;rw[List.take_length] at this;unfold QV;omega
       have hfz:=Xi hfin;rcases q20:decide (1048576<Qt ds)
       ·have q20:¬ 1048576<Qt ds:=by simpa using q20
        have q20I:¬ (1048576:Int)<(Qt ds:Nat):=by omega
        simp[hkk,q20I,hfz];refine num hwf2 _ (by rw[hn0];simp[q7,q1,q48,q20];rfl) _ ?_;simp only[Qu,fz0];rfl
       ·have q20:1048576<Qt ds:=by simpa using q20
        have q20I:(1048576:Int)<(Qt ds:Nat):=by omega
        simp[hkk,q20I];exact nonum hwf2 (by rw[hn0];simp[q20]) _ rfl
  ·have hlt:(ds.length:Int)<l.length:=by have:=(gS hN).1;omega
   have h105:((d.toNat:Int) == 105)=false:=by rw[hN] at him;rw[w105];simpa using him.symm
   rw[hN] at hwd;have hwd:w=QU d:=hwd;simp[hp,hlt,hN,h105];refine Qc (jd d false) ?_;rcases hw2:QU d<;>simp
   ·have hwf2:w=false:=(by rw[hwd,hw2])
    by_cases q7:7<ds.length
    ·have q7I:(7:Int)<ds.length:=by omega
     simp[q7I];exact nonum hwf2 (by rw[hn0];simp[q7]) _ rfl
    have q7I:¬ (7:Int)<ds.length:=by omega
    have hgt:(ds.length:Int)<(ds.length:Int)+1:=by omega
    have hdb:∀ k,Qt (ds.take k)<10000000:=fun k=>by
     have h1:=wy (ds.take k) fun c hc=>hall c (List.mem_of_mem_take hc);have h2:(ds.take k).length<=7:=by simp;omega
     exact Nat.lt_of_lt_of_le h1 (Nat.pow_le_pow_right (by decide) h2)
    by_cases q1:1<ds.length<;>by_cases q48:c=48
    all_goals
     have q48I:((c.toNat:Int) == 48)=decide (c=48):=by rw[w48];rfl
     have q1I:((1:Int)<ds.length)=(1<ds.length):=by simp;omega
     simp[q7I,q1,q1I,q48,q48I,hx0]
     first
     | exact nonum hwf2 (by rw[hn0];simp[q1,q48]) _ rfl
     | refine QB (α:=Nat) (fun k=>k<=ds.length) (fun k=>[(0,encS l),(6,.int .i64 ds.length),(7,.int .i64 ds.length),(8,.int .i64 (Qt (ds.take k):Nat)),(63,.int .i64 ds.length),(64,.int .i64 k)]) (fun _=>[]) (fun k=>ds.length - k) 0 (by simp) (Qb (by simp[Qt]) (by simp) (by simp)) ?_
       rintro k L1 K1 hk hL1 - hnext hex hrt - -;simp;refine Qv.mk (fun hb=>?_) fun hb=>?_
       ·have hlt:k<ds.length:=by simpa using hb
        obtain⟨e,he1,he2,he3⟩:=hdig k hlt;have hts:ds.take (k+1)=ds.take k++[e]:=by rw[List.take_add_one,he3];rfl
        have hb1:=hdb k;rw[<- XY] at he2;have he2:48<=e.toNat/\e.toNat<=57:=by simp[Xa] at he2;omega
        have hds1:((Qt (ds.take (k+1)):Nat):Int)=10*(Qt (ds.take k):Nat)+((e.toNat:Int) - 48):=by rw[hts,VV];omega
        have v1:IntKind.i64.wrap (10*((Qt (ds.take k):Nat):Int))=10*(Qt (ds.take k):Nat):=wrap_i64 (by omega) (by omega);have v2:IntKind.u8.wrap ((e.toNat:Int) - 48)=(e.toNat:Int) - 48:=wrap_u8 (by omega) (by omega);have v3:IntKind.i64.wrap ((e.toNat:Int) - 48)=(e.toNat:Int) - 48:=wrap_i64 (by omega) (by omega);have v4:IntKind.i64.wrap (10*((Qt (ds.take k):Nat):Int)+((e.toNat:Int) - 48))=10*(Qt (ds.take k):Nat)+((e.toNat:Int) - 48):=wrap_i64 (by omega) (by omega);simp[he1,v1,v2,v3,v4,wr1 k (by omega)];exact hnext _ (k+1) (by omega) (by omega) (Qb (by simp[hds1]) (by simp) (by simp))
       ·refine hex _ _ ?_;have hkn:¬ k<ds.length:=by simpa using hb
        have hkk:ds.take k=ds:=List.take_of_length_le (by omega);have hfin:QV (Qt ds:Nat):=by have:=hdb ds.length;rw[List.take_length] at this;unfold QV;omega
        have hfz:=Xi hfin;rcases q20:decide (1048576<Qt ds)
        ·have q20:¬ 1048576<Qt ds:=by simpa using q20
         have q20I:¬ (1048576:Int)<(Qt ds:Nat):=by omega
         simp[hkk,q20I,hfz];refine num hwf2 _ (by rw[hn0];simp[q7,q1,q48,q20];rfl) _ ?_;simp only[Qu,fz0];rfl
        ·have q20:1048576<Qt ds:=by simpa using q20
         have q20I:(1048576:Int)<(Qt ds:Nat):=by omega
         simp[hkk,q20I];exact nonum hwf2 (by rw[hn0];simp[q20]) _ rfl
   ·exact bad (by rw[hwd,hw2]) _ rfl
 ·simp only[if_true] at hwd num;have hN:l[ds.length]? = some 105:=by simpa using him.symm
  have hlt:(ds.length:Int)<l.length:=by have:=(gS hN).1;omega
  have hw1:=wr1 ds.length (by omega);rcases hM:l[ds.length+1]? with _|d
  ·have hge:¬ (ds.length:Int)+1<l.length:=by have:=List.getElem?_eq_none_iff.1 hM;omega
   have hwf:w=false:=by rw[hwd,hM];rfl
   simp[hp,hlt,hN,hw1,hge];have hwf2:w=false:=hwf;by_cases q7:7<ds.length
   ·have q7I:(7:Int)<ds.length:=by omega
    simp[q7I];exact nonum hwf2 (by rw[hn0];simp[q7]) _ rfl
   have q7I:¬ (7:Int)<ds.length:=by omega
   have hgt:(ds.length:Int)<(ds.length:Int)+1:=by omega
   have hdb:∀ k,Qt (ds.take k)<10000000:=fun k=>by
    have h1:=wy (ds.take k) fun c hc=>hall c (List.mem_of_mem_take hc);have h2:(ds.take k).length<=7:=by simp;omega
    exact Nat.lt_of_lt_of_le h1 (Nat.pow_le_pow_right (by decide) h2)
   by_cases q1:1<ds.length<;>by_cases q48:c=48
   all_goals
    have q48I:((c.toNat:Int) == 48)=decide (c=48):=by rw[w48];rfl
    have q1I:((1:Int)<ds.length)=(1<ds.length):=by simp;omega
    simp[q7I,q1,q1I,q48,q48I,hx0,hgt]
    first
    | exact nonum hwf2 (by rw[hn0];simp[q1,q48]) _ rfl
    | refine QB (α:=Nat) (fun k=>k<=ds.length) (fun k=>[(0,encS l),(6,.int .i64 ds.length),(7,.int .i64 (ds.length+1)),(8,.int .i64 (Qt (ds.take k):Nat)),(63,.int .i64 ds.length),(64,.int .i64 k)]) (fun _=>[]) (fun k=>ds.length - k) 0 (by simp) (Qb (by simp[Qt]) (by simp) (by simp)) ?_
      rintro k L1 K1 hk hL1 - hnext hex hrt - -;simp;refine Qv.mk (fun hb=>?_) fun hb=>?_
      ·have hlt:k<ds.length:=by simpa using hb
       obtain⟨e,he1,he2,he3⟩:=hdig k hlt;have hts:ds.take (k+1)=ds.take k++[e]:=by rw[List.take_add_one,he3];rfl
       have hb1:=hdb k;rw[<- XY] at he2;have he2:48<=e.toNat/\e.toNat<=57:=by simp[Xa] at he2;omega
       have hds1:((Qt (ds.take (k+1)):Nat):Int)=10*(Qt (ds.take k):Nat)+((e.toNat:Int) - 48):=by rw[hts,VV];omega
       have v1:IntKind.i64.wrap (10*((Qt (ds.take k):Nat):Int))=10*(Qt (ds.take k):Nat):=wrap_i64 (by omega) (by omega);have v2:IntKind.u8.wrap ((e.toNat:Int) - 48)=(e.toNat:Int) - 48:=wrap_u8 (by omega) (by omega);have v3:IntKind.i64.wrap ((e.toNat:Int) - 48)=(e.toNat:Int) - 48:=wrap_i64 (by omega) (by omega);have v4:IntKind.i64.wrap (10*((Qt (ds.take k):Nat):Int)+((e.toNat:Int) - 48))=10*(Qt (ds.take k):Nat)+((e.toNat:Int) - 48):=wrap_i64 (by omega) (by omega);simp[he1,v1,v2,v3,v4,wr1 k (by omega)];exact hnext _ (k+1) (by omega) (by omega) (Qb (by simp[hds1]) (by simp) (by simp))
      ·refine hex _ _ ?_;have hkn:¬ k<ds.length:=by simpa using hb
       have hkk:ds.take k=ds:=List.take_of_length_le (by omega);have hfin:QV (Qt ds:Nat):=by have:=hdb ds.length;rw[List.take_length] at this;unfold QV;omega
       have hfz:=Xi hfin;rcases q20:decide (1048576<Qt ds)
       ·have q20:¬ 1048576<Qt ds:=by simpa using q20
        have q20I:¬ (1048576:Int)<(Qt ds:Nat):=by omega
        simp[hkk,q20I,hfz,hgt];refine num hwf2 _ (by rw[hn0];simp[q7,q1,q48,q20];rfl) _ ?_;simp only[Qu,fz0];rfl
       ·have q20:1048576<Qt ds:=by simpa using q20
        have q20I:(1048576:Int)<(Qt ds:Nat):=by omega
        simp[hkk,q20I];exact nonum hwf2 (by rw[hn0];simp[q20]) _ rfl
  ·have hlt1:(ds.length:Int)+1<l.length:=by have:=(gS hM).1;omega
   rw[hM] at hwd;have hwd:w=QU d:=hwd;simp[hp,hlt,hN,hw1,hlt1,hM];refine Qc (jd d false) ?_;rcases hw2:QU d<;>simp
   ·have hwf2:w=false:=(by rw[hwd,hw2])
    by_cases q7:7<ds.length
    ·have q7I:(7:Int)<ds.length:=by omega
     simp[q7I];exact nonum hwf2 (by rw[hn0];simp[q7]) _ rfl
    have q7I:¬ (7:Int)<ds.length:=by omega
    have hgt:(ds.length:Int)<(ds.length:Int)+1:=by omega
    have hdb:∀ k,Qt (ds.take k)<10000000:=fun k=>by
     have h1:=wy (ds.take k) fun c hc=>hall c (List.mem_of_mem_take hc);have h2:(ds.take k).length<=7:=by simp;omega
     exact Nat.lt_of_lt_of_le h1 (Nat.pow_le_pow_right (by decide) h2)
    by_cases q1:1<ds.length<;>by_cases q48:c=48
    all_goals
     have q48I:((c.toNat:Int) == 48)=decide (c=48):=by rw[w48];rfl
     have q1I:((1:Int)<ds.length)=(1<ds.length):=by simp;omega
     simp[q7I,q1,q1I,q48,q48I,hx0,hgt]
     first
     | exact nonum hwf2 (by rw[hn0];simp[q1,q48]) _ rfl
     | refine QB (α:=Nat) (fun k=>k<=ds.length) (fun k=>[(0,encS l),(6,.int .i64 ds.length),(7,.int .i64 (ds.length+1)),(8,.int .i64 (Qt (ds.take k):Nat)),(63,.int .i64 ds.length),(64,.int .i64 k)]) (fun _=>[]) (fun k=>ds.length - k) 0 (by simp) (Qb (by simp[Qt]) (by simp) (by simp)) ?_
       rintro k L1 K1 hk hL1 - hnext hex hrt - -;simp;refine Qv.mk (fun hb=>?_) fun hb=>?_
       ·have hlt:k<ds.length:=by simpa using hb
        obtain⟨e,he1,he2,he3⟩:=hdig k hlt;have hts:ds.take (k+1)=ds.take k++[e]:=by rw[List.take_add_one,he3];rfl
        have hb1:=hdb k;rw[<- XY] at he2;have he2:48<=e.toNat/\e.toNat<=57:=by simp[Xa] at he2;omega
        have hds1:((Qt (ds.take (k+1)):Nat):Int)=10*(Qt (ds.take k):Nat)+((e.toNat:Int) - 48):=by rw[hts,VV];omega
        have v1:IntKind.i64.wrap (10*((Qt (ds.take k):Nat):Int))=10*(Qt (ds.take k):Nat):=wrap_i64 (by omega) (by omega);have v2:IntKind.u8.wrap ((e.toNat:Int) - 48)=(e.toNat:Int) - 48:=wrap_u8 (by omega) (by omega);have v3:IntKind.i64.wrap ((e.toNat:Int) - 48)=(e.toNat:Int) - 48:=wrap_i64 (by omega) (by omega);have v4:IntKind.i64.wrap (10*((Qt (ds.take k):Nat):Int)+((e.toNat:Int) - 48))=10*(Qt (ds.take k):Nat)+((e.toNat:Int) - 48):=wrap_i64 (by omega) (by omega);simp[he1,v1,v2,v3,v4,wr1 k (by omega)];exact hnext _ (k+1) (by omega) (by omega) (Qb (by simp[hds1]) (by simp) (by simp))
       ·refine hex _ _ ?_;have hkn:¬ k<ds.length:=by simpa using hb
        have hkk:ds.take k=ds:=List.take_of_length_le (by omega);have hfin:QV (Qt ds:Nat):=by have:=hdb ds.length;rw[List.take_length] at this;unfold QV;omega
        have hfz:=Xi hfin;rcases q20:decide (1048576<Qt ds)
        ·have q20:¬ 1048576<Qt ds:=by simpa using q20
         have q20I:¬ (1048576:Int)<(Qt ds:Nat):=by omega
         simp[hkk,q20I,hfz,hgt];refine num hwf2 _ (by rw[hn0];simp[q7,q1,q48,q20];rfl) _ ?_;simp only[Qu,fz0];rfl
        ·have q20:1048576<Qt ds:=by simpa using q20
         have q20I:(1048576:Int)<(Qt ds:Nat):=by omega
         simp[hkk,q20I];exact nonum hwf2 (by rw[hn0];simp[q20]) _ rfl
   ·exact bad (by rw[hwd,hw2]) _ rfl
end Go.Awp.R1
namespace Go.Awp.Sp
theorem yC (p:Nat) (l:Bs):Wx p l=match Wx 0 l with
 | .ok (t,n)=>.ok ({ t with place:=p },n)
 | .error (_,e)=>.error ((p:Int),e):=by
 unfold Wx;cases l with
 | nil=>rfl
 | cons c r=>
   simp only;by_cases h1:QX c=true
   ·simp only[if_pos h1]
   ·simp only[if_neg h1];by_cases h2:Qs c=true
    ·simp only[if_pos h2,XZ];generalize (if (List.drop (List.takeWhile Qs (c::r)).length (c::r)).head? == some 105 then (List.drop (List.takeWhile Qs (c::r)).length (c::r)).tail else List.drop (List.takeWhile Qs (c::r)).length (c::r):Bs)=rr;by_cases h3:rr.head?.any QU=true
     ·simp only[if_pos h3]
     ·simp only[if_neg h3];generalize numOf _ _=q;cases q<;>rfl
    ·simp only[if_neg h2];by_cases h3:YG c=true
     ·simp only[if_pos h3]
     ·simp only[if_neg h3]
theorem jy {l:Bs} {p:Nat} {q e:Int} (h:Wx p l = .error (q,e)):q=p/\(e=1∨e=6):=by
 unfold Wx at h;cases l with
 | nil=>cases h;exact⟨rfl,.inl rfl⟩
 | cons c r=>
   simp only at h;by_cases h1:QX c=true
   ·simp only[if_pos h1] at h;cases h
   ·simp only[if_neg h1] at h;by_cases h2:Qs c=true
    ·simp only[if_pos h2,XZ] at h;revert h;generalize (if (List.drop (List.takeWhile Qs (c::r)).length (c::r)).head? == some 105 then (List.drop (List.takeWhile Qs (c::r)).length (c::r)).tail else List.drop (List.takeWhile Qs (c::r)).length (c::r):Bs)=rr;by_cases h3:rr.head?.any QU=true
     ·simp only[if_pos h3];intro h;cases h;exact⟨rfl,.inl rfl⟩
     ·simp only[if_neg h3];generalize numOf _ _=q;cases q
      ·intro h;cases h;exact⟨rfl,.inr rfl⟩
      ·intro h;cases h
    ·simp only[if_neg h2] at h;by_cases h3:YG c=true
     ·simp only[if_pos h3] at h;cases h
     ·simp only[if_neg h3] at h;cases h;exact⟨rfl,.inl rfl⟩
theorem note_idx (l:Bs):(Lib.indexByte l 10<0->WR l=l.length)/\(0<=Lib.indexByte l 10->Lib.indexByte l 10=WR l)/\-1<=Lib.indexByte l 10:=by
 induction l with
 | nil=>simp[Lib.indexByte,WR]
 | cons c l ih=>
   unfold Lib.indexByte;by_cases hc:c=10
   ·subst hc;simp[WR]
   ·have hb:(c == 10)=false:=by simpa using hc
    have hn:WR (c::l)=WR l+1:=by simp[WR,hc]
    rw[hn,hb];simp only[Bool.false_eq_true,if_false,List.length_cons];by_cases h1:Lib.indexByte l 10 = -1
    ·have:=ih.1 (by omega);simp[h1,this]
    ·have hb1:(Lib.indexByte l 10 == -1)=false:=by simpa using h1
     have h0:=ih.2.2;have:=ih.2.1 (by omega);simp only[hb1,Bool.false_eq_true,if_false];omega
theorem prefix2 {c:UInt8} {l:Bs} {i:Nat} (h:l[i]? = some c):Lib.hasPrefix (l.drop i) [47,47]=(c == 47&&(l.drop (i+1)).head? == some 47):=by
 rw[Zk h];cases hr:l.drop (i+1) with
 | nil=>simp[Lib.hasPrefix,List.isPrefixOf]
 | cons d r=>
   have e:(some d == some (47:UInt8))=(d == 47):=rfl;simp only[Lib.hasPrefix,List.isPrefixOf,Bool.and_true,List.head?_cons,e];rw[show ((47:UInt8) == c)=(c == 47) from BEq.comm,show ((47:UInt8) == d)=(d == 47) from BEq.comm]
end Go.Awp.Sp
