/- The program's own lexer: texts. (Printed by mkT8.py.) -/
import Derived.Test.YtnielafbkgpgjaaGreatDoorX17
import Derived.Test.YtnielafbkgpgjaaGreatDoorX22
set_option linter.all false
set_option maxRecDepth 100000
set_option maxHeartbeats 8000000
namespace Go.Awp.R1
open Go Go.Awp Go.Proofs Go.Awp.Sp
structure X5 where
 lab:Nat
 i:Nat
 ts:List Tok
 v:V
 σ:Qa
def tvec (ts:List Tok):Blk:=.vec 121 4 (ts.map Qg) ts.length true
def Held (ts:List Tok) (v:V) (σ:Qa):Prop:=(ts=[]/\v = .snil/\σ=[])∨∃ id,v = .vec id ts.length/\σ=[(id,tvec ts)]
structure J5 (l:Bs) (x:X5):Prop where
 le:x.i<=l.length
 lex:lexS l=app x.ts (Xd l x.i)
 len:x.ts.length<=x.i
 held:Held x.ts x.v x.σ
 lab:x.lab=0∨∃ c,l[x.i]? = some c/\(c == 32||c == 10||c == 9)=false/\
  ((x.lab=1/\(c == 47&&(l.drop (x.i+1)).head? == some 47)=true)∨((c == 47&&(l.drop (x.i+1)).head? == some 47)=false/\
    ((x.lab=2/\QX c=true)∨(QX c=false/\((x.lab=3/\Qs c=true)∨(x.lab=4/\Qs c=false/\YG c=true))))))
def I5 (l:Bs) (x:X5):List (Nat × V):=(0,encS l)::(5,x.v)::(9,.int .i64 x.i)::(if x.lab=0 then [] else [(6,.int .i64 x.i)])
def μ5 (l:Bs) (x:X5):Nat:=2*(l.length - x.i)+(if x.lab=0 then 1 else 0)
theorem turn_look {C:Ctx} {τ τ':List (Nat × V)} {σ:Qa} {N lv nx:Nat} (h:∀ t v,τ'.lookup t=some v->τ.lookup t=some v):Turn C ⟨τ,σ,N,lv,nx⟩ ⟨τ',σ,N,lv,nx⟩:=fun E a hr=>
 ⟨E,rfl,⟨fun t v hv=>hr.tmp t v (h t v hv),hr.size,hr.store,hr.own,hr.glob⟩,Grow.refl _ _,rfl,fun _ _ h=>h⟩
theorem Jq {ts:List Tok} {v:V} {σ:Qa} (h:Held ts v σ) (a:V) (τ0:List (Nat × V)) (N L1:Nat):∃ id nx,Turn TC ⟨(0,a)::(5,v)::τ0,σ,N,L1,0⟩ ⟨(0,a)::(5,.vec id ts.length)::τ0,[(id,tvec ts)],N,L1,nx⟩:=by
 rcases h with⟨rfl,rfl,rfl⟩|⟨id,rfl,rfl⟩
 ·refine⟨(L1,0),1,(WM (t:=5) (el:=121) (sz:=4) (by simp) (by decide)).trans (turn_look fun t v hv=>?_)⟩;by_cases h5:t=5
  ·subst h5;simpa using hv
  ·have:(t == 5)=false:=by simpa using h5
   simp only[List.lookup_cons,this] at hv ⊢;exact hv
 ·exact⟨id,0,Turn.refl _ _⟩
theorem ZP (ts:List Tok) (id:Id):Held ts (.vec id ts.length) [(id,tvec ts)]:=.inr ⟨id,rfl,rfl⟩
theorem Qjq {C:Ctx} {K:QH->ASt->Prop} {st:List Fr} {s:ASt} {l:Nat} (h:go C 999998 .done st K s):Wait C (.label l) st K s:=fun _ hst=>QHq (go_sound 999998 .done st K s (fun c e=>by cases e) hst h)
theorem va {ex:List Nat} {c:Code} {l:Nat} {P:Code->Prop} (h1:(findLabel c l).isSome=true) (h2:∀ r,findLabel c l=some r->P r):∃ r,findLabel c l=some r/\(codeOk ex c=true->codeOk ex r=true)/\P r:=by
 obtain⟨r,hr⟩:=Option.isSome_iff_exists.1 h1;exact⟨r,hr,Qdq hr,h2 r hr⟩
theorem isD_of {c:UInt8} (h:Qs c=true):isD c:=by
 simp[Qs] at h;exact⟨by have:=h.1;exact this,by have:=h.2;exact this⟩
def Jw (l:Bs):V:=if 16384<l.length then .tup [.slice [],.int .i64 0,.int .i64 2] else Ur (lexS l)
theorem Split_ok (l:Bs) (hl:l.length<=100000000000):Ql TC 56 [encS l] (Jw l):=by
 refine ent Tryz.func56 fun L K hL hR hN hP=>?_;simp;by_cases hsz:16384<l.length
 ·refine scopeG (fun _:X5=>False) (fun x=>x.lab) (I5 l) (fun x=>x.σ) (μ5 l) (fun _ h=>h.elim) ?_;intro L1 K1 hL1 hk1 hgoto hnorm hex hrt hpn;simp;refine Qv.mk (fun hb=>?_) fun hb=>?_
  ·simp;refine hrt _ (hR _ (.pures rfl (by simp) ?_));unfold Jw;rw[if_pos hsz];exact .tup (.cons .snil (.cons (.refl _) (.cons (.refl _) .nil)))
  ·exfalso;simp at hb;omega
 have hres:Jw l=Ur (lexS l):=by unfold Jw;rw[if_neg hsz]
 rw[hres] at hR;have hl16:l.length<=16384:=by omega
 refine scopeG (J5 l) (fun x=>x.lab) (I5 l) (fun x=>x.σ) (μ5 l) ?_ ?_
 ·rintro⟨lab,i,ts,v,σ⟩ hx;obtain⟨hi,hlex,hlen,hheld,hlab⟩:=hx;simp only at hi hlex hlen hheld hlab;have c1:ts.length<=9223372036854775806:=by omega
  have c2:(ts.length+1)*48<=140737488355328:=by omega
  rcases hlab with rfl|⟨c,hx,hbl,hlab⟩
  ·refine va rfl fun r hr=>?_;simp[findLabel] at hr;subst hr;intro L1 K1 hL1 hk1 hgoto hnorm hex hrt hpn;obtain⟨id,nx,ht⟩:=Jq hheld (encS l) [(9,.int .i64 i)] 203 L1;refine⟨_,ht,?_⟩;have jump:∀ (x':X5) s',J5 l x'->μ5 l x' < 2*(l.length - i)+1->Turn TC { s' with lv:=L,nx:=0 } ⟨I5 l x',x'.σ,203,L,0⟩->K1 (.goto x'.lab) s':=fun x' s' h1 h2 h3=>hgoto _ s' x' h1 rfl h2 h3;simp;refine Qv.mk (fun hb=>?_) fun hb=>?_
   ·have hii:i=l.length:=by simp at hb;omega
    subst hii;rw[wY] at hlex;simp[tvec,c1,c2];refine hrt _ (hR _ (.pures rfl (by simp) ?_));rw[hlex];refine .tup (.cons (.vec (t:=121) (s:=4) (es:=(ts++[(⟨0,[],⟨0,0⟩,l.length⟩:Tok)]).map Qg) (wr:=true) ?_ (Qn _)) (.cons (.refl _) (.cons (.refl _) .nil)));simp[Qg,fz0]
   have hne:¬ i=l.length:=by simp at hb;omega
   have hlt:i<l.length:=by omega
   have hx:l[i]? = some l[i]:=List.getElem?_eq_getElem hlt;generalize l[i]=c at hx;have e32:((c.toNat:Int) == 32)=(c == 32):=Zn c 32;have e9:((c.toNat:Int) == 9)=(c == 9):=Zn c 9;have e10:((c.toNat:Int) == 10)=(c == 10):=Zn c 10;have e47:((c.toNat:Int) == 47)=(c == 47):=Zn c 47;have w1:=wr2 i;have blank:∀ s',(c == 32||c == 10||c == 9)=true->Turn TC { s' with lv:=L,nx:=0 } ⟨[(0,encS l),(5,.vec id ts.length),(9,.int .i64 ((i+1:Nat):Int))],[(id,tvec ts)],203,L,0⟩->K1 (.goto 0) s':=fun s' h1 h2=>
    jump ⟨0,i+1,ts,_,_⟩ _ ⟨by simp;omega,by rw[hlex,Us hx h1],by simp;omega,ZP _ _,.inl rfl⟩ (by simp[μ5];omega) h2
   simp[hx,e32];rcases h32:(c == 32)
   case true=>simp[w1];exact blank _ (by simp[h32]) twk
   simp[e10];rcases h10:(c == 10)
   case true=>simp[w1];exact blank _ (by simp[h10]) twk
   simp[e9];rcases h9:(c == 9)
   case true=>simp[w1];exact blank _ (by simp[h9]) twk
   have hbl:(c == 32||c == 10||c == 9)=false:=by rw[h32,h10,h9];rfl
   have to:∀ k s',0<k->((k=1/\(c == 47&&(l.drop (i+1)).head? == some 47)=true)∨((c == 47&&(l.drop (i+1)).head? == some 47)=false/\
    ((k=2/\QX c=true)∨(QX c=false/\((k=3/\Qs c=true)∨(k=4/\Qs c=false/\YG c=true))))))->Turn TC { s' with lv:=L,nx:=0 } ⟨[(0,encS l),(5,.vec id ts.length),(9,.int .i64 (i:Int)),(6,.int .i64 (i:Int))],[(id,tvec ts)],203,L,0⟩->K1 (.goto k) s':=fun k s' hk h1 h2=>
    jump ⟨k,i,ts,_,_⟩ _ ⟨hi,hlex,hlen,ZP _ _,.inr ⟨c,hx,hbl,h1⟩⟩ (by simp[μ5];omega) (by simp only[I5];rw[if_neg (by omega)];exact h2)
   simp[e47];rcases h47:(c == 47)
   ·have hnn:(c == 47&&(l.drop (i+1)).head? == some 47)=false:=by rw[h47];rfl
    simp;refine Qc (YE c) ?_;simp;rcases hlet:QX c
    case true=>simp;exact to 2 _ (by decide) (.inr ⟨hnn,.inl ⟨rfl,hlet⟩⟩) twk
    simp;refine Qc (YM c) ?_;simp;rcases hdig:Qs c
    case true=>simp;exact to 3 _ (by decide) (.inr ⟨hnn,.inr ⟨hlet,.inl ⟨rfl,hdig⟩⟩⟩) twk
    simp;refine Qc (wT c) ?_;simp;rcases hsig:YG c
    case true=>simp;exact to 4 _ (by decide) (.inr ⟨hnn,.inr ⟨hlet,.inr ⟨rfl,hdig,hsig⟩⟩⟩) twk
    simp;refine hrt _ (hR _ (.pures rfl (by simp) ?_));rw[hlex,WN hx hbl hnn,UK hx hlet hdig hsig];exact .tup (.cons .snil (.cons (.refl _) (.cons (.refl _) .nil)))
   by_cases hl1:i+1<l.length
   ·have hd1:l[i+1]? = some l[i+1]:=List.getElem?_eq_getElem hl1;generalize l[i+1]=d at hd1;have d47:((d.toNat:Int) == 47)=(d == 47):=Zn d 47;have hh:(l.drop (i+1)).head? = some d:=by rw[List.head?_drop];exact hd1
    have g0:(0:Int)<=(i:Int)+1:=by omega
    have g1:((i:Int)+1).toNat=i+1:=by omega
    have g2:((i:Int)+1<(l.length:Int)):=by omega
    rcases hd:(d == 47)
    ·have hnn:(c == 47&&(l.drop (i+1)).head? == some 47)=false:=by rw[hh,h47];simpa using hd
     simp[w1,hd1,d47,hd,g0,g1,g2];refine Qc (YE c) ?_;simp;rcases hlet:QX c
     case true=>simp;exact to 2 _ (by decide) (.inr ⟨hnn,.inl ⟨rfl,hlet⟩⟩) twk
     simp;refine Qc (YM c) ?_;simp;rcases hdig:Qs c
     case true=>simp;exact to 3 _ (by decide) (.inr ⟨hnn,.inr ⟨hlet,.inl ⟨rfl,hdig⟩⟩⟩) twk
     simp;refine Qc (wT c) ?_;simp;rcases hsig:YG c
     case true=>simp;exact to 4 _ (by decide) (.inr ⟨hnn,.inr ⟨hlet,.inr ⟨rfl,hdig,hsig⟩⟩⟩) twk
     simp;refine hrt _ (hR _ (.pures rfl (by simp) ?_));rw[hlex,WN hx hbl hnn,UK hx hlet hdig hsig];exact .tup (.cons .snil (.cons (.refl _) (.cons (.refl _) .nil)))
    ·have hnn:(c == 47&&(l.drop (i+1)).head? == some 47)=true:=by rw[hh,h47];simpa using hd
     simp[w1,hd1,d47,hd,g0,g1,g2];exact to 1 _ (by decide) (.inl ⟨rfl,hnn⟩) twk
   ·have hnn:(c == 47&&(l.drop (i+1)).head? == some 47)=false:=by rw[List.head?_drop,List.getElem?_eq_none (by omega)];simp
    have g2:¬ ((i:Int)+1<(l.length:Int)):=by omega
    simp[w1,g2];refine Qc (YE c) ?_;simp;rcases hlet:QX c
    case true=>simp;exact to 2 _ (by decide) (.inr ⟨hnn,.inl ⟨rfl,hlet⟩⟩) twk
    simp;refine Qc (YM c) ?_;simp;rcases hdig:Qs c
    case true=>simp;exact to 3 _ (by decide) (.inr ⟨hnn,.inr ⟨hlet,.inl ⟨rfl,hdig⟩⟩⟩) twk
    simp;refine Qc (wT c) ?_;simp;rcases hsig:YG c
    case true=>simp;exact to 4 _ (by decide) (.inr ⟨hnn,.inr ⟨hlet,.inr ⟨rfl,hdig,hsig⟩⟩⟩) twk
    simp;refine hrt _ (hR _ (.pures rfl (by simp) ?_));rw[hlex,WN hx hbl hnn,UK hx hlet hdig hsig];exact .tup (.cons .snil (.cons (.refl _) (.cons (.refl _) .nil)))
  rcases hlab with⟨rfl,hn⟩|⟨hn,hlab⟩
  ·refine va rfl fun r hr=>?_;simp[findLabel] at hr;subst hr;intro L1 K1 hL1 hk1 hgoto hnorm hex hrt hpn;obtain⟨id,nx,ht⟩:=Jq hheld (encS l) [(9,.int .i64 (i:Int)),(6,.int .i64 (i:Int))] 203 L1;refine⟨_,ht,?_⟩;have hlt:i<l.length:=(gS hx).1;have fwd:∀ (j:Nat) (us:List Tok) s',i<j->j<=l.length->lexS l=app us (Xd l j)->us.length<=j->Turn TC { s' with lv:=L,nx:=0 } ⟨[(0,encS l),(5,.vec id us.length),(9,.int .i64 (j:Int))],[(id,tvec us)],203,L,0⟩->K1 (.goto 0) s':=fun j us s' h1 h2 h3 h4 h5=>
    hgoto _ s' ⟨0,j,us,_,_⟩ ⟨h2,h3,h4,ZP _ _,.inl rfl⟩ rfl (by simp[μ5];omega) h5
   simp;refine QB (α:=Nat) (fun j=>i<=j/\j<=l.length/\i+twl (· != 10) l i=j+twl (· != 10) l j) (fun j=>[(0,encS l),(5,.vec id ts.length),(9,.int .i64 (j:Int))]) (fun _=>[(id,tvec ts)]) (fun j=>l.length - j) i ⟨Nat.le_refl _,hi,rfl⟩ twk ?_;rintro j L2 K2 ⟨hij,hj,htw⟩ hL2 - hnext hex2 hrt2 - -;have out:twl (· != 10) l j=0->Xd l i=Xd l j/\i<j:=fun h=>by
    obtain⟨q1,q2⟩:=jY hx hbl hn;rw[Quw] at q1 q2;rw[h] at htw;exact⟨by rw[q1,htw];rfl,by omega⟩
   simp;by_cases hj2:j<l.length
   ·have hxj:l[j]? = some l[j]:=List.getElem?_eq_getElem hj2;generalize l[j]=d at hxj;have d10:((d.toNat:Int) == 10)=(d == 10):=Zn d 10;have d10':((d.toNat:Int) != 10) = !(d == 10):=by simp only[bne,d10]
    have w1:=wr2 j;have hdj:decide (j<l.length)=true:=decide_eq_true hj2;rcases hd:(d == 10)
    ·have hp:(d != 10)=true:=by simp only[bne,hd];rfl
     simp[hdj,hxj,d10',hd,w1];exact hnext _ (j+1) ⟨by omega,by omega,by rw[htw,Vx hxj hp];omega⟩ (by omega) twk
    ·have hp:(d != 10)=false:=by simp only[bne,hd];rfl
     obtain⟨o1,o2⟩:=out (QNz hxj hp);simp[hdj,hxj,d10',hd];refine hex2 _ _ ?_;simp;exact fwd j ts _ o2 hj (by rw[hlex,o1]) (by omega) twk
   ·obtain⟨o1,o2⟩:=out (yz (by omega));simp[hj2];refine hex2 _ _ ?_;simp;exact fwd j ts _ o2 hj (by rw[hlex,o1]) (by omega) twk
  rcases hlab with⟨rfl,hlet⟩|⟨hlet,hlab⟩
  ·refine va rfl fun r hr=>?_;simp[findLabel] at hr;subst hr;intro L1 K1 hL1 hk1 hgoto hnorm hex hrt hpn;obtain⟨id,nx,ht⟩:=Jq hheld (encS l) [(9,.int .i64 (i:Int)),(6,.int .i64 (i:Int))] 203 L1;refine⟨_,ht,?_⟩;have hlt:i<l.length:=(gS hx).1;have fwd:∀ (j:Nat) (us:List Tok) s',i<j->j<=l.length->lexS l=app us (Xd l j)->us.length<=j->Turn TC { s' with lv:=L,nx:=0 } ⟨[(0,encS l),(5,.vec id us.length),(9,.int .i64 (j:Int))],[(id,tvec us)],203,L,0⟩->K1 (.goto 0) s':=fun j us s' h1 h2 h3 h4 h5=>
    hgoto _ s' ⟨0,j,us,_,_⟩ ⟨h2,h3,h4,ZP _ _,.inl rfl⟩ rfl (by simp[μ5];omega) h5
   simp;refine QB (α:=Nat) (fun j=>i<=j/\j<=l.length/\i+twl QU l i=j+twl QU l j) (fun j=>[(0,encS l),(5,.vec id ts.length),(6,.int .i64 (i:Int)),(9,.int .i64 (j:Int))]) (fun _=>[(id,tvec ts)]) (fun j=>l.length - j) i ⟨Nat.le_refl _,hi,rfl⟩ twk ?_;rintro j L2 K2 ⟨hij,hj,htw⟩ hL2 - hnext hex2 hrt2 - -;have hw0:QU c=true:=by simp[QU,hlet]
   have out:twl QU l j=0->lexS l=app (ts++[⟨1,(l.drop i).take (j - i),⟨0,0⟩,i⟩]) (Xd l j)/\i<j:=fun h=>by
    rw[h] at htw;have h1:=Vx hx hw0;have h2:twl QU l i=j - i:=by omega
    refine⟨?_,by omega⟩;rw[hlex,WN hx hbl hn,tok_word hx hlet,h2,<- ZU];simp only[show i+(j - i)=j by omega]
   have fin:∀ s',twl QU l j=0->Turn TC { s' with lv:=L,nx:=0 } ⟨[(0,encS l),(5,.vec id (ts.length+1)),(9,.int .i64 (j:Int))],[(id,tvec (ts++[⟨1,(l.drop i).take (j - i),⟨0,0⟩,i⟩]))],203,L,0⟩->K1 (.goto 0) s':=fun s' h1 h2=>by
    obtain⟨o1,o2⟩:=out h1;exact fwd j _ s' o2 hj o1 (by simp;omega) (by simpa using h2)
   have g0:(0:Int)<=(i:Int):=by omega
   have c0:i<=j/\j<=l.length:=⟨hij,hj⟩
   simp;by_cases hj2:j<l.length
   ·have hxj:l[j]? = some l[j]:=List.getElem?_eq_getElem hj2;generalize l[j]=d at hxj;have w1:=wr2 j;have hdj:decide (j<l.length)=true:=decide_eq_true hj2;simp[hdj,hxj];refine Qc (YE d) ?_;simp;rcases hd:QX d
    ·simp[hxj];refine Qc (YM d) ?_;simp;rcases he:Qs d
     ·simp;refine hex2 _ _ ?_;simp[c0,c1,c2,tvec];have hp:QU d=false:=by simp[QU,hd,he]
      exact fin _ (QNz hxj hp) (Qb (by simp) (by simp[tvec,Qg,fz0]) (by simp))
     ·have hp:QU d=true:=by simp[QU,he]
      simp[w1];exact hnext _ (j+1) ⟨by omega,by omega,by rw[htw,Vx hxj hp];omega⟩ (by omega) twk
    ·have hp:QU d=true:=by simp[QU,hd]
     simp[w1];exact hnext _ (j+1) ⟨by omega,by omega,by rw[htw,Vx hxj hp];omega⟩ (by omega) twk
   ·simp[hj2];refine hex2 _ _ ?_;simp[c0,c1,c2,tvec];exact fin _ (yz (by omega)) (Qb (by simp) (by simp[tvec,Qg,fz0]) (by simp))
  rcases hlab with⟨rfl,hdig⟩|⟨rfl,hdig,hsig⟩
  ·refine va rfl fun r hr=>?_;simp[findLabel] at hr;subst hr;intro L1 K1 hL1 hk1 hgoto hnorm hex hrt hpn;obtain⟨id,nx,ht⟩:=Jq hheld (encS l) [(9,.int .i64 (i:Int)),(6,.int .i64 (i:Int))] 203 L1;refine⟨_,ht,?_⟩;have hlt:i<l.length:=(gS hx).1;have fwd:∀ (j:Nat) (us:List Tok) s',i<j->j<=l.length->lexS l=app us (Xd l j)->us.length<=j->Turn TC { s' with lv:=L,nx:=0 } ⟨[(0,encS l),(5,.vec id us.length),(9,.int .i64 (j:Int))],[(id,tvec us)],203,L,0⟩->K1 (.goto 0) s':=fun j us s' h1 h2 h3 h4 h5=>
    hgoto _ s' ⟨0,j,us,_,_⟩ ⟨h2,h3,h4,ZP _ _,.inl rfl⟩ rfl (by simp[μ5];omega) h5
   simp;have hall0:∀ c∈(l.drop i).take (twl Qs l i),isD c:=by
    rw[<- jw];exact fun c hc=>isD_of (List.all_eq_true.1 List.all_takeWhile c hc)
   refine QB (α:=Nat) (fun j=>i<=j/\j<=l.length/\i+twl Qs l i=j+twl Qs l j) (fun j=>[(0,encS l),(5,.vec id ts.length),(6,.int .i64 (i:Int)),(9,.int .i64 (j:Int))]) (fun _=>[(id,tvec ts)]) (fun j=>l.length - j) i ⟨Nat.le_refl _,hi,rfl⟩ twk ?_;rintro j L2 K2 ⟨hij,hj,htw⟩ hL2 - hnext hex2 hrt2 - -;simp;by_cases hj2:j<l.length
   ·have hxj:l[j]? = some l[j]:=List.getElem?_eq_getElem hj2;generalize l[j]=d at hxj;have w1:=wr2 j;have hdj:decide (j<l.length)=true:=decide_eq_true hj2;simp[hdj,hxj];refine Qc (YM d) ?_;simp;rcases hd:Qs d
    ·simp;refine hex2 _ _ ?_;have hz:=QNz hxj hd;rw[hz] at htw;have d105:((d.toNat:Int) == 105)=(d == 105):=Zn d 105;have hw0:twl Qs l i=twl Qs l (i+1)+1:=Vx hx hdig;have hdd:twl Qs l i=j - i:=by omega
     have hij1:i<j:=by omega
     obtain⟨ds,hds⟩:∃ ds,ds=(l.drop i).take (j - i):=⟨_,rfl⟩
     rw[hdd,<- hds] at hall0;have hall:∀ c∈ds,isD c:=hall0;have hdlen:ds.length=j - i:=by rw[hds,List.length_take,List.length_drop];omega
     have hne0:ds≠[]:=fun e=>by rw[e] at hdlen;simp at hdlen;omega
     have hdl:ds.length<=1000000000000:=by omega
     simp;simp[hdj,hxj,d105];rcases h105:(d == 105)
     ·simp;obtain⟨b,hb⟩:∃ b,b=false:=⟨_,rfl⟩
      obtain⟨j2,hj2e⟩:∃ j2,j2=j:=⟨_,rfl⟩
      have hbj:(l[j]? == some 105)=b:=by rw[hb];rw[hxj];simpa using h105
      have hdr:l.drop (j+if b=true then 1 else 0)=l.drop j2:=by rw[hb,hj2e];rfl
      have hx2:(if b=true then ds++[105] else ds)=(l.drop i).take (j2 - i):=by rw[hb,hj2e,hds];rfl
      have hlen2:i+(ds.length+(if b=true then 1 else 0))=j2:=by rw[hb,hdlen,hj2e];simp;omega
      have hj3:i<j2/\j2<=l.length:=by omega
      rw[<- hj2e];have hnt:Wx i (l.drop i)=XZ i ds b (l.drop j2):=by
       rw[yA hx hlet hdig,hdd,show i+(j - i)=j by omega,hbj,<- hds,hdr]
      have hbad:(l.drop j2).head?.any QU=true->Ur (lexS l) = .tup [.slice [],.int .i64 i,.int .i64 1]:=fun h=>by
       rw[hlex,WN hx hbl hn,hnt];unfold XZ;rw[if_pos h];rfl
      have hgood:(l.drop j2).head?.any QU=false->lexS l=app ts (match numOf ds b with|none=>.error ((i:Int),Vr)|some z=>match Xd l j2 with|.error e=>.error e|.ok us=>.ok (⟨2,if b=true then ds++[105] else ds,z,i⟩::us)):=fun h=>by
       rw[hlex,WN hx hbl hn,hnt];unfold XZ;rw[if_neg (by rw[h];simp)];cases numOf ds b with
       | none=>rfl
       | some z=>simp only[hlen2];cases Xd l j2<;>rfl
      have hP:Ql TC 84 [V.str (bs ((l.drop i).take (j2 - i)))] _:=hx2▸vN ds hall hne0 hdl b;have c0:i<=j2/\j2<=l.length:=by omega
      by_cases hq:j2<l.length
      ·have hxq:l[j2]? = some l[j2]:=List.getElem?_eq_getElem hq;generalize l[j2]=q at hxq;have hdq:decide (j2<l.length)=true:=decide_eq_true hq;simp[hdq,hxq];refine Qc (YE q) ?_;simp;rcases hq1:QX q
       ·simp[hxq];refine Qc (YM q) ?_;simp;rcases hq2:Qs q
        ·simp[c0];have hok:(l.drop j2).head?.any QU=false:=by rw[List.head?_drop,hxq];simp[QU,hq1,hq2]
         have hgood:=hgood hok;refine Qc hP ?_;rcases hnum:numOf ds b with _|z
         ·rw[hnum] at hgood;simp;refine hrt _ (hR _ (.pures rfl (by simp) ?_));rw[hgood];exact .tup (.cons .snil (.cons (.refl _) (.cons (.refl _) .nil)))
         ·rw[hnum] at hgood;simp[c0,c1,c2,tvec,Qu];refine fwd j2 (ts++[⟨2,if b=true then ds++[105] else ds,z,i⟩]) _ (by omega) (by omega) (by rw[hgood];exact ZU _ _ _) (by simp;omega) (Qb (by simp) (by simp[tvec,Qg,hx2]) (by simp))
        ·simp;refine hrt _ (hR _ (.pures rfl (by simp) ?_));rw[hbad (by rw[List.head?_drop,hxq];simp[QU,hq1,hq2])];exact .tup (.cons .snil (.cons (.refl _) (.cons (.refl _) .nil)))
       ·simp;refine hrt _ (hR _ (.pures rfl (by simp) ?_));rw[hbad (by rw[List.head?_drop,hxq];simp[QU,hq1])];exact .tup (.cons .snil (.cons (.refl _) (.cons (.refl _) .nil)))
      ·have hdq:decide (j2<l.length)=false:=decide_eq_false hq;simp[hdq];simp[c0];have hok:(l.drop j2).head?.any QU=false:=by rw[List.head?_drop,List.getElem?_eq_none (by omega)];rfl
       have hgood:=hgood hok;refine Qc hP ?_;rcases hnum:numOf ds b with _|z
       ·rw[hnum] at hgood;simp;refine hrt _ (hR _ (.pures rfl (by simp) ?_));rw[hgood];exact .tup (.cons .snil (.cons (.refl _) (.cons (.refl _) .nil)))
       ·rw[hnum] at hgood;simp[c0,c1,c2,tvec,Qu];refine fwd j2 (ts++[⟨2,if b=true then ds++[105] else ds,z,i⟩]) _ (by omega) (by omega) (by rw[hgood];exact ZU _ _ _) (by simp;omega) (Qb (by simp) (by simp[tvec,Qg,hx2]) (by simp))
     ·simp[w1];obtain⟨b,hb⟩:∃ b,b=true:=⟨_,rfl⟩
      obtain⟨j2,hj2e⟩:∃ j2,j2=j+1:=⟨_,rfl⟩
      have hbj:(l[j]? == some 105)=b:=by rw[hb,hxj];simpa using h105
      have hdr:l.drop (j+if b=true then 1 else 0)=l.drop j2:=by rw[hb,hj2e];rfl
      have hx2:(if b=true then ds++[105] else ds)=(l.drop i).take (j2 - i):=by
       rw[hb,hj2e,hds,if_pos rfl,show j+1 - i=(j - i)+1 by omega,List.take_add_one,List.getElem?_drop,show i+(j - i)=j by omega,hxj];have:d=105:=by simpa using h105
       rw[this];rfl
      have hlen2:i+(ds.length+(if b=true then 1 else 0))=j2:=by rw[hb,hdlen,hj2e];simp;omega
      have hj3:i<j2/\j2<=l.length:=by omega
      rw[show ((j:Int)+1)=((j2:Nat):Int) by omega];have hnt:Wx i (l.drop i)=XZ i ds b (l.drop j2):=by
       rw[yA hx hlet hdig,hdd,show i+(j - i)=j by omega,hbj,<- hds,hdr]
      have hbad:(l.drop j2).head?.any QU=true->Ur (lexS l) = .tup [.slice [],.int .i64 i,.int .i64 1]:=fun h=>by
       rw[hlex,WN hx hbl hn,hnt];unfold XZ;rw[if_pos h];rfl
      have hgood:(l.drop j2).head?.any QU=false->lexS l=app ts (match numOf ds b with|none=>.error ((i:Int),Vr)|some z=>match Xd l j2 with|.error e=>.error e|.ok us=>.ok (⟨2,if b=true then ds++[105] else ds,z,i⟩::us)):=fun h=>by
       rw[hlex,WN hx hbl hn,hnt];unfold XZ;rw[if_neg (by rw[h];simp)];cases numOf ds b with
       | none=>rfl
       | some z=>simp only[hlen2];cases Xd l j2<;>rfl
      have hP:Ql TC 84 [V.str (bs ((l.drop i).take (j2 - i)))] _:=hx2▸vN ds hall hne0 hdl b;have c0:i<=j2/\j2<=l.length:=by omega
      by_cases hq:j2<l.length
      ·have hxq:l[j2]? = some l[j2]:=List.getElem?_eq_getElem hq;generalize l[j2]=q at hxq;have hdq:decide (j2<l.length)=true:=decide_eq_true hq;simp[hdq,hxq];refine Qc (YE q) ?_;simp;rcases hq1:QX q
       ·simp[hxq];refine Qc (YM q) ?_;simp;rcases hq2:Qs q
        ·simp[c0];have hok:(l.drop j2).head?.any QU=false:=by rw[List.head?_drop,hxq];simp[QU,hq1,hq2]
         have hgood:=hgood hok;refine Qc hP ?_;rcases hnum:numOf ds b with _|z
         ·rw[hnum] at hgood;simp;refine hrt _ (hR _ (.pures rfl (by simp) ?_));rw[hgood];exact .tup (.cons .snil (.cons (.refl _) (.cons (.refl _) .nil)))
         ·rw[hnum] at hgood;simp[c0,c1,c2,tvec,Qu];refine fwd j2 (ts++[⟨2,if b=true then ds++[105] else ds,z,i⟩]) _ (by omega) (by omega) (by rw[hgood];exact ZU _ _ _) (by simp;omega) (Qb (by simp) (by simp[tvec,Qg,hx2]) (by simp))
        ·simp;refine hrt _ (hR _ (.pures rfl (by simp) ?_));rw[hbad (by rw[List.head?_drop,hxq];simp[QU,hq1,hq2])];exact .tup (.cons .snil (.cons (.refl _) (.cons (.refl _) .nil)))
       ·simp;refine hrt _ (hR _ (.pures rfl (by simp) ?_));rw[hbad (by rw[List.head?_drop,hxq];simp[QU,hq1])];exact .tup (.cons .snil (.cons (.refl _) (.cons (.refl _) .nil)))
      ·have hdq:decide (j2<l.length)=false:=decide_eq_false hq;simp[hdq];simp[c0];have hok:(l.drop j2).head?.any QU=false:=by rw[List.head?_drop,List.getElem?_eq_none (by omega)];rfl
       have hgood:=hgood hok;refine Qc hP ?_;rcases hnum:numOf ds b with _|z
       ·rw[hnum] at hgood;simp;refine hrt _ (hR _ (.pures rfl (by simp) ?_));rw[hgood];exact .tup (.cons .snil (.cons (.refl _) (.cons (.refl _) .nil)))
       ·rw[hnum] at hgood;simp[c0,c1,c2,tvec,Qu];refine fwd j2 (ts++[⟨2,if b=true then ds++[105] else ds,z,i⟩]) _ (by omega) (by omega) (by rw[hgood];exact ZU _ _ _) (by simp;omega) (Qb (by simp) (by simp[tvec,Qg,hx2]) (by simp))
    ·simp[w1];exact hnext _ (j+1) ⟨by omega,by omega,by rw[htw,Vx hxj hd];omega⟩ (by omega) twk
   ·have hdj:decide (j<l.length)=false:=decide_eq_false hj2;simp[hdj];refine hex2 _ _ ?_;have hz:=yz (p:=Qs) (l:=l) (i:=j) (by omega);rw[hz] at htw;have hw0:twl Qs l i=twl Qs l (i+1)+1:=Vx hx hdig;have hdd:twl Qs l i=j - i:=by omega
    have hij1:i<j:=by omega
    obtain⟨ds,hds⟩:∃ ds,ds=(l.drop i).take (j - i):=⟨_,rfl⟩
    rw[hdd,<- hds] at hall0;have hall:∀ c∈ds,isD c:=hall0;have hdlen:ds.length=j - i:=by rw[hds,List.length_take,List.length_drop];omega
    have hne0:ds≠[]:=fun e=>by rw[e] at hdlen;simp at hdlen;omega
    have hdl:ds.length<=1000000000000:=by omega
    simp;obtain⟨b,hb⟩:∃ b,b=false:=⟨_,rfl⟩
    obtain⟨j2,hj2e⟩:∃ j2,j2=j:=⟨_,rfl⟩
    have hbj:(l[j]? == some 105)=b:=by rw[hb];rw[List.getElem?_eq_none (by omega)];rfl
    have hdr:l.drop (j+if b=true then 1 else 0)=l.drop j2:=by rw[hb,hj2e];rfl
    have hx2:(if b=true then ds++[105] else ds)=(l.drop i).take (j2 - i):=by rw[hb,hj2e,hds];rfl
    have hlen2:i+(ds.length+(if b=true then 1 else 0))=j2:=by rw[hb,hdlen,hj2e];simp;omega
    have hj3:i<j2/\j2<=l.length:=by omega
    simp[hdj];rw[<- hj2e];have hnt:Wx i (l.drop i)=XZ i ds b (l.drop j2):=by
     rw[yA hx hlet hdig,hdd,show i+(j - i)=j by omega,hbj,<- hds,hdr]
    have hbad:(l.drop j2).head?.any QU=true->Ur (lexS l) = .tup [.slice [],.int .i64 i,.int .i64 1]:=fun h=>by
     rw[hlex,WN hx hbl hn,hnt];unfold XZ;rw[if_pos h];rfl
    have hgood:(l.drop j2).head?.any QU=false->lexS l=app ts (match numOf ds b with|none=>.error ((i:Int),Vr)|some z=>match Xd l j2 with|.error e=>.error e|.ok us=>.ok (⟨2,if b=true then ds++[105] else ds,z,i⟩::us)):=fun h=>by
     rw[hlex,WN hx hbl hn,hnt];unfold XZ;rw[if_neg (by rw[h];simp)];cases numOf ds b with
     | none=>rfl
     | some z=>simp only[hlen2];cases Xd l j2<;>rfl
    have hP:Ql TC 84 [V.str (bs ((l.drop i).take (j2 - i)))] _:=hx2▸vN ds hall hne0 hdl b;have c0:i<=j2/\j2<=l.length:=by omega
    simp[c0];have hok:(l.drop j2).head?.any QU=false:=by rw[List.head?_drop,List.getElem?_eq_none (by omega)];rfl
    have hgood:=hgood hok;refine Qc hP ?_;rcases hnum:numOf ds b with _|z
    ·rw[hnum] at hgood;simp;refine hrt _ (hR _ (.pures rfl (by simp) ?_));rw[hgood];exact .tup (.cons .snil (.cons (.refl _) (.cons (.refl _) .nil)))
    ·rw[hnum] at hgood;simp[c0,c1,c2,tvec,Qu];refine fwd j2 (ts++[⟨2,if b=true then ds++[105] else ds,z,i⟩]) _ (by omega) (by omega) (by rw[hgood];exact ZU _ _ _) (by simp;omega) (Qb (by simp) (by simp[tvec,Qg,hx2]) (by simp))
  ·refine va rfl fun r hr=>?_;simp[findLabel] at hr;subst hr;intro L1 K1 hL1 hk1 hgoto hnorm hex hrt hpn;obtain⟨id,nx,ht⟩:=Jq hheld (encS l) [(9,.int .i64 (i:Int)),(6,.int .i64 (i:Int))] 203 L1;refine⟨_,ht,?_⟩;have hlt:i<l.length:=(gS hx).1;have fwd:∀ (j:Nat) (us:List Tok) s',i<j->j<=l.length->lexS l=app us (Xd l j)->us.length<=j->Turn TC { s' with lv:=L,nx:=0 } ⟨[(0,encS l),(5,.vec id us.length),(9,.int .i64 (j:Int))],[(id,tvec us)],203,L,0⟩->K1 (.goto 0) s':=fun j us s' h1 h2 h3 h4 h5=>
    hgoto _ s' ⟨0,j,us,_,_⟩ ⟨h2,h3,h4,ZP _ _,.inl rfl⟩ rfl (by simp[μ5];omega) h5
   simp;have w1:=wr2 i;have e61:((c.toNat:Int) == 61)=(c == 61):=Zn c 61;have e33:((c.toNat:Int) == 33)=(c == 33):=Zn c 33;have out:∀ j2:Nat,(if ((c == 61||c == 33)&&l[i+1]? == some 61)=true then 2 else 1)=j2 - i->i<j2->lexS l=app (ts++[⟨3,(l.drop i).take (j2 - i),⟨0,0⟩,i⟩]) (Xd l j2):=fun j2 h1 h2=>by
    rw[hlex,WN hx hbl hn,tok_sign hx hlet hdig hsig,h1,<- ZU];simp only[show i+(j2 - i)=j2 by omega]
   simp[w1];by_cases hl1:i+1<l.length
   ·have hd1:l[i+1]? = some l[i+1]:=List.getElem?_eq_getElem hl1;generalize l[i+1]=d at hd1;have d61:((d.toNat:Int) == 61)=(d == 61):=Zn d 61;have g0:(0:Int)<=(i:Int)+1:=by omega
    have g1:((i:Int)+1).toNat=i+1:=by omega
    have g2:((i:Int)+1<(l.length:Int)):=by omega
    have w2:IntKind.i64.wrap ((i:Int)+1+1)=(i:Int)+1+1:=wrap_i64 (by omega) (by omega);rcases hd:(d == 61)
    ·simp[hd1,d61,hd,g0,g1,g2];obtain⟨j2,hj2e⟩:∃ j2,j2=i+1:=⟨_,rfl⟩
     have hn2:(if ((c == 61||c == 33)&&l[i+1]? == some 61)=true then 2 else 1)=j2 - i:=by rw[hj2e];simp[hd1,hd]
     have ho:=out j2 hn2 (by omega);have c0:i<=j2/\j2<=l.length:=by omega
     have c3:i+1<=l.length:=by omega
     have hs:j2 - i=1:=by omega
     simp[c1,c2,c3,tvec];exact fwd j2 _ _ (by omega) (by omega) ho (by simp;omega) (Qb (by simp[hj2e]) (by simp[tvec,Qg,fz0,hs]) (by simp))
    ·rcases h61:(c == 61)
     ·rcases h33:(c == 33)
      ·simp[hd1,d61,hd,g0,g1,g2,hx,e61,h61,e33,h33];obtain⟨j2,hj2e⟩:∃ j2,j2=i+1:=⟨_,rfl⟩
       have hn2:(if ((c == 61||c == 33)&&l[i+1]? == some 61)=true then 2 else 1)=j2 - i:=by rw[hj2e];simp[h61,h33]
       have ho:=out j2 hn2 (by omega);have c0:i<=j2/\j2<=l.length:=by omega
       have c3:i+1<=l.length:=by omega
       have hs:j2 - i=1:=by omega
       simp[c1,c2,c3,tvec];exact fwd j2 _ _ (by omega) (by omega) ho (by simp;omega) (Qb (by simp[hj2e]) (by simp[tvec,Qg,fz0,hs]) (by simp))
      ·simp[hd1,d61,hd,g0,g1,g2,hx,e61,h61,e33,h33,w2];obtain⟨j2,hj2e⟩:∃ j2,j2=i+2:=⟨_,rfl⟩
       have hn2:(if ((c == 61||c == 33)&&l[i+1]? == some 61)=true then 2 else 1)=j2 - i:=by rw[hj2e];simp[hd1,hd,h33]
       have ho:=out j2 hn2 (by omega);have c0:i<=j2/\j2<=l.length:=by omega
       rw[show ((i:Int)+1+1)=((j2:Nat):Int) by omega];simp[c0,c1,c2,tvec];exact fwd j2 _ _ (by omega) (by omega) ho (by simp;omega) (Qb (by simp) (by simp[tvec,Qg,fz0]) (by simp))
     ·simp[hd1,d61,hd,g0,g1,g2,hx,e61,h61,w2];obtain⟨j2,hj2e⟩:∃ j2,j2=i+2:=⟨_,rfl⟩
      have hn2:(if ((c == 61||c == 33)&&l[i+1]? == some 61)=true then 2 else 1)=j2 - i:=by rw[hj2e];simp[hd1,hd,h61]
      have ho:=out j2 hn2 (by omega);have c0:i<=j2/\j2<=l.length:=by omega
      rw[show ((i:Int)+1+1)=((j2:Nat):Int) by omega];simp[c0,c1,c2,tvec];exact fwd j2 _ _ (by omega) (by omega) ho (by simp;omega) (Qb (by simp) (by simp[tvec,Qg,fz0]) (by simp))
   ·have g2:¬ ((i:Int)+1<(l.length:Int)):=by omega
    have hnone:l[i+1]? = none:=List.getElem?_eq_none (by omega);simp[g2];obtain⟨j2,hj2e⟩:∃ j2,j2=i+1:=⟨_,rfl⟩
    have hn2:(if ((c == 61||c == 33)&&l[i+1]? == some 61)=true then 2 else 1)=j2 - i:=by rw[hj2e];simp[hnone]
    have ho:=out j2 hn2 (by omega);have c0:i<=j2/\j2<=l.length:=by omega
    have c3:i+1<=l.length:=by omega
    have hs:j2 - i=1:=by omega
    simp[c1,c2,c3,tvec];exact fwd j2 _ _ (by omega) (by omega) ho (by simp;omega) (Qb (by simp[hj2e]) (by simp[tvec,Qg,fz0,hs]) (by simp))
 ·intro L1 K1 hL1 hk1 hgoto hnorm hex hrt hpn;simp;refine Qv.mk (fun hb=>?_) fun hb=>?_
  ·exfalso;simp at hb;omega
  simp;obtain⟨i,hi0⟩:∃ i:Nat,i=0:=⟨0,rfl⟩
  obtain⟨ts,hts⟩:∃ ts:List Tok,ts=[]:=⟨[],rfl⟩
  obtain⟨id,nx,ht⟩:=Jq (ts:=ts) (.inl ⟨hts,rfl,rfl⟩) (encS l) [(9,.int .i64 (i:Int))] 203 L1;refine Qw ((Qb (by simp[hi0]) (by simp) (by simp)).trans ht) (Qjq ?_);have hi:i<=l.length:=by omega
  have hlen:ts.length<=i:=by rw[hts];simp
  have hlex:lexS l=app ts (Xd l i):=by rw[hi0,hts,app_nil,jX]
  clear hts hi0;have c1:ts.length<=9223372036854775806:=by omega
  have c2:(ts.length+1)*48<=140737488355328:=by omega
  have jump:∀ (x':X5) s',J5 l x'->μ5 l x' < 2*(l.length - i)+1->Turn TC { s' with lv:=L,nx:=0 } ⟨I5 l x',x'.σ,203,L,0⟩->K1 (.goto x'.lab) s':=fun x' s' h1 _ h3=>hgoto _ s' x' h1 rfl h3;simp;refine Qv.mk (fun hb=>?_) fun hb=>?_
  ·have hii:i=l.length:=by simp at hb;omega
   subst hii;rw[wY] at hlex;simp[tvec,c1,c2];refine hrt _ (hR _ (.pures rfl (by simp) ?_));rw[hlex];refine .tup (.cons (.vec (t:=121) (s:=4) (es:=(ts++[(⟨0,[],⟨0,0⟩,l.length⟩:Tok)]).map Qg) (wr:=true) ?_ (Qn _)) (.cons (.refl _) (.cons (.refl _) .nil)));simp[Qg,fz0]
  have hne:¬ i=l.length:=by simp at hb;omega
  have hlt:i<l.length:=by omega
  have hx:l[i]? = some l[i]:=List.getElem?_eq_getElem hlt;generalize l[i]=c at hx;have e32:((c.toNat:Int) == 32)=(c == 32):=Zn c 32;have e9:((c.toNat:Int) == 9)=(c == 9):=Zn c 9;have e10:((c.toNat:Int) == 10)=(c == 10):=Zn c 10;have e47:((c.toNat:Int) == 47)=(c == 47):=Zn c 47;have w1:=wr2 i;have blank:∀ s',(c == 32||c == 10||c == 9)=true->Turn TC { s' with lv:=L,nx:=0 } ⟨[(0,encS l),(5,.vec id ts.length),(9,.int .i64 ((i+1:Nat):Int))],[(id,tvec ts)],203,L,0⟩->K1 (.goto 0) s':=fun s' h1 h2=>
   jump ⟨0,i+1,ts,_,_⟩ _ ⟨by simp;omega,by rw[hlex,Us hx h1],by simp;omega,ZP _ _,.inl rfl⟩ (by simp[μ5];omega) h2
  simp[hx,e32];rcases h32:(c == 32)
  case true=>simp[w1];exact blank _ (by simp[h32]) twk
  simp[e10];rcases h10:(c == 10)
  case true=>simp[w1];exact blank _ (by simp[h10]) twk
  simp[e9];rcases h9:(c == 9)
  case true=>simp[w1];exact blank _ (by simp[h9]) twk
  have hbl:(c == 32||c == 10||c == 9)=false:=by rw[h32,h10,h9];rfl
  have to:∀ k s',0<k->((k=1/\(c == 47&&(l.drop (i+1)).head? == some 47)=true)∨((c == 47&&(l.drop (i+1)).head? == some 47)=false/\
   ((k=2/\QX c=true)∨(QX c=false/\((k=3/\Qs c=true)∨(k=4/\Qs c=false/\YG c=true))))))->Turn TC { s' with lv:=L,nx:=0 } ⟨[(0,encS l),(5,.vec id ts.length),(9,.int .i64 (i:Int)),(6,.int .i64 (i:Int))],[(id,tvec ts)],203,L,0⟩->K1 (.goto k) s':=fun k s' hk h1 h2=>
   jump ⟨k,i,ts,_,_⟩ _ ⟨hi,hlex,hlen,ZP _ _,.inr ⟨c,hx,hbl,h1⟩⟩ (by simp[μ5];omega) (by simp only[I5];rw[if_neg (by omega)];exact h2)
  simp[e47];rcases h47:(c == 47)
  ·have hnn:(c == 47&&(l.drop (i+1)).head? == some 47)=false:=by rw[h47];rfl
   simp;refine Qc (YE c) ?_;simp;rcases hlet:QX c
   case true=>simp;exact to 2 _ (by decide) (.inr ⟨hnn,.inl ⟨rfl,hlet⟩⟩) twk
   simp;refine Qc (YM c) ?_;simp;rcases hdig:Qs c
   case true=>simp;exact to 3 _ (by decide) (.inr ⟨hnn,.inr ⟨hlet,.inl ⟨rfl,hdig⟩⟩⟩) twk
   simp;refine Qc (wT c) ?_;simp;rcases hsig:YG c
   case true=>simp;exact to 4 _ (by decide) (.inr ⟨hnn,.inr ⟨hlet,.inr ⟨rfl,hdig,hsig⟩⟩⟩) twk
   simp;refine hrt _ (hR _ (.pures rfl (by simp) ?_));rw[hlex,WN hx hbl hnn,UK hx hlet hdig hsig];exact .tup (.cons .snil (.cons (.refl _) (.cons (.refl _) .nil)))
  by_cases hl1:i+1<l.length
  ·have hd1:l[i+1]? = some l[i+1]:=List.getElem?_eq_getElem hl1;generalize l[i+1]=d at hd1;have d47:((d.toNat:Int) == 47)=(d == 47):=Zn d 47;have hh:(l.drop (i+1)).head? = some d:=by rw[List.head?_drop];exact hd1
   have g0:(0:Int)<=(i:Int)+1:=by omega
   have g1:((i:Int)+1).toNat=i+1:=by omega
   have g2:((i:Int)+1<(l.length:Int)):=by omega
   rcases hd:(d == 47)
   ·have hnn:(c == 47&&(l.drop (i+1)).head? == some 47)=false:=by rw[hh,h47];simpa using hd
    simp[w1,hd1,d47,hd,g0,g1,g2];refine Qc (YE c) ?_;simp;rcases hlet:QX c
    case true=>simp;exact to 2 _ (by decide) (.inr ⟨hnn,.inl ⟨rfl,hlet⟩⟩) twk
    simp;refine Qc (YM c) ?_;simp;rcases hdig:Qs c
    case true=>simp;exact to 3 _ (by decide) (.inr ⟨hnn,.inr ⟨hlet,.inl ⟨rfl,hdig⟩⟩⟩) twk
    simp;refine Qc (wT c) ?_;simp;rcases hsig:YG c
    case true=>simp;exact to 4 _ (by decide) (.inr ⟨hnn,.inr ⟨hlet,.inr ⟨rfl,hdig,hsig⟩⟩⟩) twk
    simp;refine hrt _ (hR _ (.pures rfl (by simp) ?_));rw[hlex,WN hx hbl hnn,UK hx hlet hdig hsig];exact .tup (.cons .snil (.cons (.refl _) (.cons (.refl _) .nil)))
   ·have hnn:(c == 47&&(l.drop (i+1)).head? == some 47)=true:=by rw[hh,h47];simpa using hd
    simp[w1,hd1,d47,hd,g0,g1,g2];exact to 1 _ (by decide) (.inl ⟨rfl,hnn⟩) twk
  ·have hnn:(c == 47&&(l.drop (i+1)).head? == some 47)=false:=by rw[List.head?_drop,List.getElem?_eq_none (by omega)];simp
   have g2:¬ ((i:Int)+1<(l.length:Int)):=by omega
   simp[w1,g2];refine Qc (YE c) ?_;simp;rcases hlet:QX c
   case true=>simp;exact to 2 _ (by decide) (.inr ⟨hnn,.inl ⟨rfl,hlet⟩⟩) twk
   simp;refine Qc (YM c) ?_;simp;rcases hdig:Qs c
   case true=>simp;exact to 3 _ (by decide) (.inr ⟨hnn,.inr ⟨hlet,.inl ⟨rfl,hdig⟩⟩⟩) twk
   simp;refine Qc (wT c) ?_;simp;rcases hsig:YG c
   case true=>simp;exact to 4 _ (by decide) (.inr ⟨hnn,.inr ⟨hlet,.inr ⟨rfl,hdig,hsig⟩⟩⟩) twk
   simp;refine hrt _ (hR _ (.pures rfl (by simp) ?_));rw[hlex,WN hx hbl hnn,UK hx hlet hdig hsig];exact .tup (.cons .snil (.cons (.refl _) (.cons (.refl _) .nil)))
end Go.Awp.R1
