/- The statements' own lexer: texts. -/
import Derived.Test.YtnielafbkgpgjaaGreatDoorX16
set_option linter.all false
set_option maxRecDepth 100000
set_option maxHeartbeats 8000000
namespace Go.Awp.R1
open Go Go.Awp Go.Proofs Go.Awp.Sp
attribute [simp] cutB
def Ur (r:Except Er (List Tok)):V:=match r with
 | .ok ts=>.tup [.slice (ts.map Qg),.int .i64 0,.int .i64 0]
 | .error (p,e)=>.tup [.slice [],.int .i64 p,.int .i64 e]
theorem Zn (c d:UInt8):((c.toNat:Int) == (d.toNat:Int))=(c == d):=by
 by_cases h:c=d
 ·subst h;simp
 ·have:c.toNat≠d.toNat:=fun e=>h (UInt8.toNat_inj.1 e);have h2:(c == d)=false:=by simpa using h
  rw[h2];simp;omega
theorem SplitL_ok (l:Bs) (hl:l.length<=100000000000):Ql TC 43 [encS l] (Ur (lexS l)):=by
 refine ent Tryz.func43 fun L K hL hR hN hP=>?_;simp;refine Qw (WM (t:=5) (el:=121) (sz:=4) (by simp) (by decide)) ?_;refine QB (α:=Nat × List Tok) (fun x=>x.1<=l.length/\lexS l=app x.2 (Xd l x.1)/\x.2.length<=x.1)
  (fun x=>[(0,encS l),(5,.vec (L,0) x.2.length),(6,.int .i64 x.1)]) (fun x=>[((L,0),.vec 121 4 (x.2.map Qg) x.2.length true)]) (fun x=>l.length - x.1) (0,[]) ⟨by simp,by rw[app_nil,jX],by simp⟩ twk ?_
 rintro⟨i,out⟩ L1 K1 ⟨hi,hout,holen⟩ hL1 - hnext hex hrt - -;simp at hi hout holen hL1;have n1:L≠L1:=by omega
 simp;refine Qv.mk (fun hb=>?_) fun hb=>?_
 ·have hlt:i<l.length:=by simpa using hb
  have hx:l[i]? = some l[i]:=List.getElem?_eq_getElem hlt;generalize l[i]=c at hx;have e32:((c.toNat:Int) == 32)=(c == 32):=Zn c 32;have e9:((c.toNat:Int) == 9)=(c == 9):=Zn c 9;have e10:((c.toNat:Int) == 10)=(c == 10):=Zn c 10;have w1:=wr2 i;have blank:∀ s',(c == 32||c == 10||c == 9)=true->Turn TC { s' with lv:=L,nx:=1 } ⟨[(0,encS l),(5,.vec (L,0) out.length),(6,.int .i64 ((i+1:Nat):Int))],[((L,0),.vec 121 4 (out.map Qg) out.length true)],86,L,1⟩->K1 .normal s':=fun s' h1 h2=>
   hnext _ (i+1,out) ⟨by simp;omega,by rw[hout,Us hx h1],by simp;omega⟩ (by simp;omega) h2
  simp[hx,e32];rcases h32:(c == 32)
  case true=>simp[w1];exact blank _ (by simp[h32]) twk
  simp[hx,e9];rcases h9:(c == 9)
  case true=>simp[w1];exact blank _ (by simp[h9]) twk
  simp[hx,e10];rcases h10:(c == 10)
  case true=>simp[w1];exact blank _ (by simp[h10]) twk
  have hbl:(c == 32||c == 10||c == 9)=false:=by rw[h32,h10,h9];rfl
  have htk:(l.drop i).take (l.length - i)=l.drop i:=List.take_of_length_le (by simp);simp[hi,htk];refine Qc (Ua (l.drop i) [47,47]) ?_;rw[prefix2 hx];rcases hnote:(c == 47&&(l.drop (i+1)).head? == some 47)
  case true=>
   obtain⟨hn1,hn2⟩:=jY hx hbl hnote;obtain⟨q1,q2,q3⟩:=note_idx (l.drop i);have hnl:WR (l.drop i)<=l.length - i:=by have:=QXw (l.drop i);simpa using this
   have go_on:∀ s',Turn TC { s' with lv:=L,nx:=1 } ⟨[(0,encS l),(5,.vec (L,0) out.length),(6,.int .i64 ((i+WR (l.drop i):Nat):Int))],[((L,0),.vec 121 4 (out.map Qg) out.length true)],86,L,1⟩->K1 .normal s':=fun s' h2=>
    hnext _ (i+WR (l.drop i),out) ⟨by simp;omega,by rw[hout,hn1],by simp;omega⟩ (by simp;omega) h2
   simp[hi,htk];refine Qc (wH (l.drop i) 10) ?_;have w2:IntKind.i64.wrap ((l.length:Int) - i)=(l.length:Int) - i:=wrap_i64 (by omega) (by omega);by_cases hq:Lib.indexByte (l.drop i) 10<0
   ·have hnn:=q1 hq;have w3:IntKind.i64.wrap ((i:Int)+((l.length:Int) - i))=((i+WR (l.drop i):Nat):Int):=by rw[hnn,wrap_i64 (by omega) (by omega)];simp;omega
    simp[hq,w2,w3];exact go_on _ twk
   ·have hnn:=q2 (by omega);have w3:IntKind.i64.wrap ((i:Int)+Lib.indexByte (l.drop i) 10)=((i+WR (l.drop i):Nat):Int):=by rw[hnn,wrap_i64 (by omega) (by omega)];simp
    simp[hq,w3];exact go_on _ twk
  have hstep:=WN hx hbl hnote;simp[hi,htk];have htok:=Token_ok (l.drop i) c (l.drop (i+1)) (Zk hx) (by simp;omega);rw[yC] at hstep;rcases hr:Wx 0 (l.drop i) with⟨p,e⟩|⟨t,n⟩
  ·obtain⟨_,he⟩:=jy hr;have hb2:(e != 0)=true:=by rcases he with rfl|rfl<;>decide
   have hb3:(e == 0)=false:=by rcases he with rfl|rfl<;>decide
   have hb4:¬ e=0:=by rcases he with rfl|rfl<;>decide
   rw[show Zs (l.drop i) = .tup [.int .i64 0,.int .i64 0,Qu ⟨0,0⟩,.int .i64 e] by simp[Zs,hr]] at htok;rw[hr] at hstep;refine Qc htok ?_;simp[Qu,hb2];refine hrt _ (hR _ (.pures rfl (by simp) ?_));rw[hout,hstep];exact .tup (.cons .snil (.cons (.refl _) (.cons (.refl _) .nil)))
  ·obtain⟨t1,t2,t3,t4,t5⟩:=Vy hr;rw[show Zs (l.drop i) = .tup [.int .i64 t.kind,.int .i64 n,Qu t.num,.int .i64 0] by simp[Zs,hr]] at htok;rw[hr] at hstep;have hnl:n<=l.length - i:=by simpa using t2
   refine Qc htok ?_;have w4:IntKind.i64.wrap ((i:Int)+n)=((i+n:Nat):Int):=by rw[wrap_i64 (by omega) (by omega)];simp
   have c0:i<=i+n/\i+n<=l.length:=by omega
   have c1:out.length<=9223372036854775806:=by omega
   have c2:(out.length+1)*48<=140737488355328:=by omega
   have g0:(0:Int)<=(i:Int)+n:=by omega
   have g1:((i:Int)+n).toNat=i+n:=by omega
   simp[Qu,w4,c0,c1,c2,g0,g1];refine hnext _ (i+n,out++[{ t with place:=(i:Int) }]) ⟨by simp;omega,by rw[hout,hstep];exact ZU _ _ _,by simp;omega⟩ (by simp;omega) (Qb (by simp) (by simp[Qg,t3]) (by simp))
 ·refine hex _ _ ?_;have hkn:¬ i<l.length:=by simpa using hb
  have hii:i=l.length:=by omega
  subst hii;rw[wY] at hout;have c1:out.length<=9223372036854775806:=by omega
  have c2:(out.length+1)*48<=140737488355328:=by omega
  simp[c1,c2];refine hR _ (.pures rfl (by simp) ?_);rw[hout];refine .tup (.cons (.vec (t:=121) (s:=4) (es:=(out++[(⟨0,[],⟨0,0⟩,l.length⟩:Tok)]).map Qg) (wr:=true) ?_ (Qn _)) (.cons (.refl _) (.cons (.refl _) .nil)));simp[Qg,fz0]
theorem TakesN_ok (n:Int):Ql TC 164 [.int .i64 n] (.int .i64 (if n=0∨n=2∨n=3∨n=4∨n=13∨n=14∨n=15∨n=16 then 1 else if n=5 then 2 else 0)):=by
 refine ent Tryz.func164 fun L K hL hR hN hP=>?_;simp;have fin:∀ s k,Qf TC.P s [.tmp 2]=some [.int .i64 k]->k=(if n=0∨n=2∨n=3∨n=4∨n=13∨n=14∨n=15∨n=16 then 1 else if n=5 then 2 else 0)->K .ret s:=fun s k h e=>hR _ (.pure h (by rw[e];exact .refl _))
 iterate 7
  refine Qv.mk (fun h=>?_) (fun h=>?_)
  ·simp[h];refine fin _ _ rfl ?_;have:=eq_of_beq h;subst this;rfl
  simp
 refine Qv.mk (fun h=>?_) (fun h=>?_)
 ·simp;refine fin _ _ rfl ?_;have:=eq_of_beq h;subst this;rfl
 simp;refine Qv.mk (fun h=>?_) (fun h=>?_)
 ·simp;refine fin _ _ rfl ?_;have:=eq_of_beq h;subst this;rfl
 ·simp;refine fin _ _ rfl ?_
  simp_all
theorem Takes_ok (k:Nat):Ql TC 164 [.int .i64 k] (.int .i64 (QR k:Nat)):=by
 have e:((QR k:Nat):Int)=(if (k:Int)=0∨(k:Int)=2∨(k:Int)=3∨(k:Int)=4∨(k:Int)=13∨(k:Int)=14∨(k:Int)=15∨(k:Int)=16 then 1 else if (k:Int)=5 then 2 else 0):=by
  unfold QR
  repeat' split
  all_goals first|rfl|(exfalso;omega)
 rw[e];exact TakesN_ok k
theorem nat17 {k:Nat} (h:k<17):k=0∨k=1∨k=2∨k=3∨k=4∨k=5∨k=6∨k=7∨k=8∨k=9∨k=10∨k=11∨k=12∨k=13∨k=14∨k=15∨k=16:=by omega
theorem nat6 {k:Nat} (h:k<6):k=0∨k=1∨k=2∨k=3∨k=4∨k=5:=by omega
theorem QJz (k:Nat) (hk:k<6):Ql TC 86 [.int .i64 k] (.str (bs (QW.getD k []))):=by
 have h1:¬ ((k:Int)<0):=by omega
 have h2:¬ ((6:Int)<=(k:Int)):=by omega
 have h3:(0:Int)<=(k:Int):=by omega
 refine ent Tryz.func86 fun L K hL hR hN hP=>?_;simp[h1,h2,h3,hk];rcases nat6 hk with rfl|rfl|rfl|rfl|rfl|rfl<;>simp<;>exact hR _ (.pure rfl (.refl _))
theorem Word_ok (k:Nat) (hk:k<17):Ql TC 161 [.int .i64 k] (.str (bs (Qy.getD k []))):=by
 have h1:¬ ((k:Int)<0):=by omega
 have h2:¬ ((17:Int)<=(k:Int)):=by omega
 have h3:(0:Int)<=(k:Int):=by omega
 refine ent Tryz.func161 fun L K hL hR hN hP=>?_;simp (maxSteps:=2000000) [h1,h2,h3,hk];rcases nat17 hk with rfl|rfl|rfl|rfl|rfl|rfl|rfl|rfl|rfl|rfl|rfl|rfl|rfl|rfl|rfl|rfl|rfl<;>simp<;>exact hR _ (.pure rfl (.refl _))
end Go.Awp.R1
