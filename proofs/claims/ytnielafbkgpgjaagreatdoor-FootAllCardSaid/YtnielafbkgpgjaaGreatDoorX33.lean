/- Normal, Form. -/
import Derived.Test.YtnielafbkgpgjaaGreatDoorX32
set_option linter.all false
set_option maxRecDepth 100000
set_option maxHeartbeats 8000000
namespace Go.Awp.R3
open Go.Awp.R1 Go Go.Awp Go.Proofs Go.Awp.B
theorem yO {pk:List Nat->Option Nat} {m:Nat} {left:List Nat} {b:Nat} (h:pk left=some b) (hm:b∈left) (hl:left.length<=m):JR pk m left=b::JR pk (m - 1) (left.filter (· != b)):=by
 cases m with
 | zero=>cases left with
   | nil=>cases hm
   | cons=>simp at hl
 | succ m=>simp[JR,h]
theorem filter_lt {left:List Nat} {b:Nat} (hm:b∈left):(left.filter (· != b)).length<left.length:=by
 rw[<- List.countP_eq_length_filter];have:=List.countP_eq_length (p:=(· != b)) (l:=left);have h2:=List.countP_le_length (p:=(· != b)) (l:=left);rcases Nat.lt_or_eq_of_le h2 with h|h
 ·exact h
 ·have:=this.1 h b hm;simp at this
def bi:Option Nat->Int
 | none=>-1
 | some b=>b
theorem Wlq (l:List Ev) (hl:Few l):Ql TC 67 [.slice (l.map encE)] (.slice ((qT l).map encI)):=by
 have hl0:=hl.len;refine ent Tryz.func67 fun L K hL hR hN hP=>?_;simp;refine Qw (WM (t:=4) (el:=3) (sz:=1) (by simp) (by decide)) ?_;refine Qw (WM (t:=3) (el:=3) (sz:=1) (by simp) (by decide)) ?_;refine QB (α:=Nat) (fun k=>k<=l.length)
  (fun k=>[(0,.slice (l.map encE)),(3,.vec (L,1) 0),(4,.vec (L,0) k),(10,.int .i64 l.length),(11,.int .i64 k)])
  (fun k=>[((L,1),.vec 3 1 [] 0 true),((L,0),.vec 3 1 ((List.range k).map encI) k true)]) (fun k=>l.length - k) 0 (by simp) twk ?_
 ·rintro k L1 K1 hk hL1 hk1 hnext hex hrt - -;simp at hk1;simp;refine Qv.mk (fun hb=>?_) fun hb=>?_
  ·have hlt:k<l.length:=by simpa using hb
   have c1:k<=9223372036854775806:=by omega
   have c2:(k+1)*8<=140737488355328:=by omega
   simp[c1,c2,wr1 k (by omega)];exact hnext _ (k+1) (by omega) (by omega) (Qb (by simp) (by simp[List.range_succ]) (by simp))
  ·refine hex _ _ ?_;have hkn:¬ k<l.length:=by simpa using hb
   have hkl:k=l.length:=by omega
   subst hkl;simp;refine QB (α:=List Nat × List Nat × Nat × Nat) (fun x=>qT l=x.1++JR (qP l) x.2.2.2 x.2.1/\x.2.1.length<=x.2.2.2/\x.1.length+x.2.1.length<=l.length/\∀ i∈x.2.1,i<l.length)
    (fun x=>[(0,.slice (l.map encE)),(3,.vec (L,1) x.1.length),(4,.vec (L,0) x.2.2.1)])
    (fun x=>[((L,1),.vec 3 1 (x.1.map encI) x.1.length true),((L,0),.vec 3 1 (x.2.1.map encI) x.2.2.1 true)]) (fun x=>x.2.1.length) ([],List.range l.length,l.length,l.length) (by simp[qT]) twk ?_
   rintro⟨out,left,ver,m⟩ L1 K1 ⟨hn,hm,hlen,hin⟩ hL1 hk1 hnext hex hrt - -;simp at hn hm hlen hin hL1;have n1:L≠L1:=by omega
   simp;refine Qv.mk (fun hb=>?_) fun hb=>?_
   ·have hpos:0<left.length:=by simpa using hb
    obtain⟨b,hpk⟩:∃ b,qP l left=some b:=by
     cases hq:qP l left with
     | some b=>exact⟨b,rfl⟩
     | none=>have:=pick_none l hq;subst this;simp at hpos
    obtain⟨hbm,-,-⟩:=pick_some l hpk;simp[n1.symm];refine QB (α:=Nat × Option Nat) (fun x=>x.1<=left.length/\x.2=(left.take x.1).foldl (fun b i=>if Yu l i left=true then better l b i else b) none/\∀ b,x.2=some b->b<l.length)
     (fun x=>[(0,.slice (l.map encE)),(3,.vec (L,1) out.length),(4,.vec (L,0) ver),(6,.ptr (L1,0) 0),(22,.vec (L,0) ver),(23,.int .i64 left.length),(24,.int .i64 x.1)])
     (fun x=>[((L1,0),.cells 3 [.int .i64 (bi x.2)]),((L,1),.vec 3 1 (out.map encI) out.length true),((L,0),.vec 3 1 (left.map encI) ver true)]) (fun x=>left.length - x.1) (0,none) (by simp) (Qb (by simp) (by simp[bi]) (by simp)) ?_
    rintro⟨k,b'⟩ L2 K2 ⟨hk,hb',hbl⟩ hL2 hk2 hnext2 hex2 hrt2 - -;simp at hk hb' hbl hL2;have n2:L≠L2:=by omega
    have n3:L1≠L2:=by omega
    simp;refine Qv.mk (fun hb=>?_) fun hb=>?_
    ·have hlt:k<left.length:=by simpa using hb
     have hfs:=fold_succ (fun b i=>if Yu l i left=true then better l b i else b) none hlt;rw[<- hb'] at hfs;have hil:left[k]<l.length:=hin _ (List.getElem_mem _);generalize hx:left[k]=i at hfs hil;simp[hx,hlt,n1.symm];refine Qe.borrow (QBz l left i hl (by omega) hin hil) (.cons (.refl _) (.cons (.vec (t:=3) (s:=1) (es:=left.map encI) (wr:=true) (by simp[n1.symm]) (Qn _)) (.cons (.refl _) .nil))) rfl (by decide) ?_;rcases hf:Yu l i left<;>simp[wr1 k (by omega)]
     ·exact hnext2 _ (k+1,b') ⟨by simp;omega,by rw[hfs];simp[hf],hbl⟩ (by simp;omega) twk
     ·cases b' with
      | none=>
        simp[bi,wr1 k (by omega)];exact hnext2 _ (k+1,some i) ⟨by simp;omega,by rw[hfs];simp[hf,better],by simp;exact hil⟩ (by simp;omega) (Qb (by simp) (by simp[bi]) (by simp))
      | some c=>
        have hcl:=hbl c rfl;have hc0:¬ (c:Int)<0:=by omega
        rcases hlt2:decide ((at' l i).t<(at' l c).t)<;>simp[bi,hc0,hlt2,ZY hil,ZY hcl,wr1 k (by omega)]
        ·exact hnext2 _ (k+1,some c) ⟨by simp;omega,by rw[hfs];simp at hlt2;simp[hf,better];omega,by simp;exact hcl⟩ (by simp;omega) (Qb (by simp) (by simp[bi]) (by simp))
        ·exact hnext2 _ (k+1,some i) ⟨by simp;omega,by rw[hfs];simp at hlt2;simp[hf,better];omega,by simp;exact hil⟩ (by simp;omega) (Qb (by simp) (by simp[bi]) (by simp))
    ·refine hex2 _ _ ?_;have hkn:¬ k<left.length:=by simpa using hb
     have e:b' = some b:=by rw[hb',List.take_of_length_le (by omega)];exact hpk
     subst e;have c1:out.length<=9223372036854775806:=by omega
     have c2:(out.length+1)*8<=140737488355328:=by omega
     simp[bi,c1,c2,n1.symm];refine Qe.frz [((L1,0),.cells 3 [encI b])] (DelInt_ok (L,0) ver left (fun i=>i == b) 103 [.rptr (encI b)] (by omega) (fun i _=>QKw i b) ⟨b,hbm,by simp⟩)
      (.cons (.refl _) (.cons (.func .nil (.cons (.cell (t:=3) (c:=encI b) (by simp) (.refl _)) .nil)) .nil)) (by simp) (by simp[Qa.less,n1]) (by simp) (by decide) rfl ?_ ?_
     ·rintro L' v σ' h1 h2 ⟨e,rfl⟩;cases e;simp[Qa.less,n1];have hfl:=filter_lt hbm;refine hnext _ (out++[b],left.filter (· != b),ver+1,m - 1) ⟨by rw[hn,yO hpk hbm hm];simp,by show (left.filter (· != b)).length<=m - 1;omega,by show (out++[b]).length+(left.filter (· != b)).length<=l.length;rw[List.length_append,List.length_singleton];omega,fun i hi=>hin i (List.mem_filter.1 hi).1⟩ hfl
       ((Uf (t:=4) (id:=L) (j:=0) (ver:=ver) (z:=1) (el:=3) (len:=(left.filter (fun x=>!x == b)).length) (es:=(left.filter (fun x=>!x == b)).map encI++List.replicate (left.length - (left.filter (fun x=>!x == b)).length) (.int .i64 0)) (by simp) (by simp) (by simp)).trans (Qb (by simp) (by simp;rfl) (by simp)))
     ·rintro L' v σ' h1 h2 ⟨e,rfl⟩;cases e
   ·refine hex _ _ ?_;have hln:¬ 0<left.length:=by simpa using hb
    have e:left=[]:=List.eq_nil_of_length_eq_zero (by omega);subst e;simp;refine hR _ (.pure rfl ?_);rw[hn,Quz,List.append_nil];exact .vec (t:=3) (s:=1) (es:=out.map encI) (wr:=true) (by simp) (Qn _)
@[simp] theorem frz_refl (σ:Qa) (v:V):Frz σ v v:=.refl v
end Go.Awp.R3
namespace Go.Awp.B
def exch (l:List Ev) (i:Nat):List Ev:=(l.set i (at' l (i+1))).set (i+1) (at' l i)
def mayB (l:List Ev) (i:Nat):Bool:=decide (i+1<l.length) && !depend (at' l i) (at' l (i+1))
def swapP (l:List Ev) (i:Nat):List Ev:=if mayB l i=true then exch l i else l
def Thr (l:List Ev):Prop:=∀ e∈l,0<=e.t/\e.t<=1000
def bump (c:List Nat) (t:Nat):List Nat:=c.modify t (· + 1)
def mixS (l:List Ev) (out:List (List Nat)) (j:Nat) (c:List Nat) (i:Nat):List Nat:=
 if depend (at' l i) (at' l j)=true then List.zipWith max c (out.getD i []) else c
def UD (l:List Ev) (T:Nat) (out:List (List Nat)) (j:Nat):List Nat:=
 bump ((List.range j).foldl (mixS l out j) (List.replicate T 0)) (at' l j).t.toNat
def XL (l:List Ev) (T k:Nat):List (List Nat):=(List.range k).foldl (fun out j=>out++[UD l T out j]) []
def Xs (l:List Ev) (T:Nat):List (List Nat):=XL l T l.length
def WB (l:List Ev):Nat:=l.foldl (fun m e=>max m (e.t.toNat+1)) 0
def nthS (s:List Nat × List Nat) (e:Ev):List Nat × List Nat:=(bump s.1 e.t.toNat,s.2++[(bump s.1 e.t.toNat).getD e.t.toNat 0])
def nthP (l:List Ev):List Nat:=(l.foldl nthS (List.replicate (WB l) 0,[])).2
def WH (l:List Ev) (i j:Nat):Bool:=
 decide (i<j)&&decide (j<l.length)&&decide ((nthP l).getD i 0<=((Xs l (WB l)).getD j []).getD (at' l i).t.toNat 0)
theorem Ji (l:List Ev) (T k:Nat):XL l T (k+1)=XL l T k++[UD l T (XL l T k) k]:=by
 unfold XL;rw[List.range_succ,List.foldl_append]<;>rfl
theorem JJ (l:List Ev) (T k:Nat):(XL l T k).length=k:=by
 induction k with
 | zero=>rfl
 | succ k ih=>rw[Ji];simp[ih]
theorem JU (c:List Nat) (t:Nat):(bump c t).length=c.length:=by simp[bump]
theorem jQ {l:List Ev} {T j:Nat} {out:List (List Nat)} (ho:∀ c∈out,c.length=T) (hj:j<=out.length) (k:Nat) (hk:k<=j):((List.range k).foldl (mixS l out j) (List.replicate T 0)).length=T:=by
 induction k with
 | zero=>simp
 | succ k ih=>
   have:=ih (by omega);rw[List.range_succ,List.foldl_append];simp only[List.foldl_cons,List.foldl_nil];unfold mixS;split
   ·rw[List.length_zipWith];have hlt:k<out.length:=by omega
    have:(out.getD k []).length=T:=by
     rw[List.getD_eq_getElem?_getD,List.getElem?_eq_getElem hlt];exact ho _ (List.getElem_mem _)
    have e:=‹((List.range k).foldl (mixS l out j) (List.replicate T 0)).length=T›;unfold mixS at e;rw[this,e,Nat.min_self]
   ·exact this
theorem wA (l:List Ev) (T k:Nat):∀ c∈XL l T k,c.length=T:=by
 induction k with
 | zero=>simp[XL]
 | succ k ih=>
   rw[Ji];intro c hc;rcases List.mem_append.1 hc with hc|hc
   ·exact ih c hc
   ·rw[List.mem_singleton.1 hc];unfold UD;rw[JU];exact jQ ih (by rw[JJ];exact Nat.le_refl _) k (Nat.le_refl _)
theorem zip_bound {B:Nat} {c d:List Nat} (h1:∀ x∈c,x<=B) (h2:∀ x∈d,x<=B):∀ x∈List.zipWith max c d,x<=B:=by
 intro x hx;obtain⟨i,hi,rfl⟩:=List.getElem_of_mem hx;rw[List.getElem_zipWith];exact Nat.max_le.2 ⟨h1 _ (List.getElem_mem _),h2 _ (List.getElem_mem _)⟩
theorem uM {l:List Ev} {j B:Nat} {out:List (List Nat)} (ho:∀ c∈out,∀ x∈c,x<=B) (is:List Nat) (c:List Nat) (hc:∀ x∈c,x<=B):∀ x∈is.foldl (mixS l out j) c,x<=B:=by
 induction is generalizing c with
 | nil=>exact hc
 | cons i is ih=>
   refine ih _ ?_;unfold mixS;split
   ·refine zip_bound hc ?_;rw[List.getD_eq_getElem?_getD];cases h:out[i]? with
    | none=>simp
    | some d=>exact ho d (List.mem_of_getElem? h)
   ·exact hc
theorem vD {B:Nat} {c:List Nat} (h:∀ x∈c,x<=B) (t:Nat):∀ x∈bump c t,x<=B+1:=by
 intro x hx;obtain⟨i,hi,rfl⟩:=List.getElem_of_mem hx;have hi2:i<c.length:=by rw[JU] at hi;exact hi
 have e:(bump c t)[i]=if t=i then c[i]+1 else c[i]:=List.getElem_modify (· + 1) t c i hi
 have:=h c[i] (List.getElem_mem hi2);rw[e];split<;>omega
theorem uk (l:List Ev) (T k:Nat):∀ c∈XL l T k,∀ x∈c,x<=k:=by
 induction k with
 | zero=>simp[XL]
 | succ k ih=>
   rw[Ji];intro c hc;rcases List.mem_append.1 hc with hc|hc
   ·intro x hx;have:=ih c hc x hx;omega
   ·rw[List.mem_singleton.1 hc];exact vD (uM ih _ _ (by intro x hx;have:=(List.mem_replicate.1 hx).2;omega)) _
theorem QOw {l:List Ev} (h:Thr l):WB l<=1001:=by
 have:∀ (l:List Ev) (m:Nat),Thr l->m<=1001->l.foldl (fun m e=>max m (e.t.toNat+1)) m<=1001:=by
  intro l
  induction l with
  | nil=>intro m _ h;exact h
  | cons e l ih=>
    intro m ht hm;have he:=ht e List.mem_cons_self;exact ih _ (fun x hx=>ht x (List.mem_cons_of_mem _ hx)) (by show max m (e.t.toNat+1)<=1001;omega)
 exact this l 0 h (by omega)
theorem jz {l:List Ev} {e:Ev} (he:e∈l):e.t.toNat<WB l:=by
 have key:∀ (l:List Ev) (m:Nat),m<=l.foldl (fun m e=>max m (e.t.toNat+1)) m/\∀ e∈l,e.t.toNat<l.foldl (fun m e=>max m (e.t.toNat+1)) m:=by
  intro l
  induction l with
  | nil=>intro m;exact⟨Nat.le_refl _,by simp⟩
  | cons x l ih=>
    intro m;obtain⟨h1,h2⟩:=ih (max m (x.t.toNat+1));refine⟨by simp only[List.foldl_cons];omega,fun e he=>?_⟩;simp only[List.foldl_cons];rcases List.mem_cons.1 he with rfl|he
    ·omega
    ·exact h2 e he
 exact (key l 0).2 e he
theorem Qtz (l:List Ev) (s:List Nat × List Nat):(l.foldl nthS s).2.length=s.2.length+l.length/\(l.foldl nthS s).1.length=s.1.length:=by
 induction l generalizing s with
 | nil=>simp
 | cons e l ih=>rw[List.foldl_cons];obtain⟨h1,h2⟩:=ih (nthS s e);rw[h1,h2];simp[nthS,JU];omega
theorem Quq (l:List Ev):(nthP l).length=l.length:=by unfold nthP;rw[(Qtz _ _).1];simp
end Go.Awp.B
namespace Go.Awp.R3
open Go.Awp.R1 Go Go.Awp Go.Proofs Go.Awp.B
def encR (c:List Nat):V:=.slice (c.map encI)
attribute [simp] encR
theorem zip_step {c d:List Nat} {t:Nat} (h1:t<c.length) (h2:t<d.length):((List.zipWith max (c.take t) (d.take t)++c.drop t).set t (max c[t] d[t]))=List.zipWith max (c.take (t+1)) (d.take (t+1))++c.drop (t+1):=by
 have hl:(List.zipWith max (c.take t) (d.take t)).length=t:=by simp;omega
 rw[List.set_append,if_neg (by omega),hl,Nat.sub_self,List.drop_eq_getElem_cons h1,List.set_cons_zero];rw[List.take_add_one,List.take_add_one,List.getElem?_eq_getElem h1,List.getElem?_eq_getElem h2];rw[List.zipWith_append (by simp;omega)];simp
theorem Clocks_ok (l:List Ev) (T:Nat) (hl:Few l) (ht:Thr l) (hT:T<=2000):Ql TC 99 [.slice (l.map encE),.int .i64 T] (.slice ((Xs l T).map encR)):=by
 have hl0:=hl.len;refine ent Tryz.func99 fun L K hL hR hN hP=>?_;simp;refine Qw (WM (t:=5) (el:=33) (sz:=1) (by simp) (by decide)) ?_;refine QB (α:=Nat) (fun k=>k<=l.length)
  (fun k=>[(0,.slice (l.map encE)),(1,.int .i64 T),(5,.vec (L,0) k),(12,.slice (l.map encE)),(13,.int .i64 l.length),(14,.int .i64 k)])
  (fun k=>[((L,0),.vec 33 1 ((XL l T k).map encR) k true)]) (fun k=>l.length - k) 0 (by simp) (Qb (by simp) (by simp[XL]) (by simp)) ?_
 rintro j L1 K1 hj hL1 - hnext hex hrt - -;simp at hL1;have n1:L≠L1:=by omega
 simp;refine Qv.mk (fun hb=>?_) fun hb=>?_
 ·have hlt:j<l.length:=by simpa using hb
  have hout:=wA l T j;have hbd:=uk l T j;have hol:=JJ l T j;have hsucc:=Ji l T j;generalize XL l T j=out at *;have hej:=hl.at hlt;have htj:=ht _ (at_mem hlt);have m1:(if (0:Int) > (T:Int) then (0:Int) else T)=T:=by split<;>omega
  have m2:(T:Int)<=9223372036854775807:=by omega
  have m3:T*8<=140737488355328:=by omega
  simp[ZY hlt,m1,m2,m3];refine QB (α:=Nat × List Nat) (fun x=>x.1<=j/\x.2=(List.range x.1).foldl (mixS l out j) (List.replicate T 0))
   (fun x=>[(0,.slice (l.map encE)),(1,.int .i64 T),(5,.vec (L,0) j),(7,.ptr (L1,0) 0),(8,.vec (L1,1) 1),(12,.slice (l.map encE)),(13,.int .i64 l.length),(14,.int .i64 j),(22,.int .i64 j),(23,.int .i64 x.1)])
   (fun x=>[((L1,1),.vec 3 1 (x.2.map encI) 1 true),((L1,0),.cells 88 (encE (at' l j)).cells),((L,0),.vec 33 1 (out.map encR) j true)]) (fun x=>j - x.1) (0,List.replicate T 0) (by simp) twk ?_
  rintro⟨i,c⟩ L2 K2 ⟨hi,hc⟩ hL2 - hnext2 hex2 hrt2 - -;simp at hi hc hL2;have n2:L≠L2:=by omega
  have n3:L1≠L2:=by omega
  have hcl:c.length=T:=by rw[hc];exact jQ hout (by omega) i hi
  simp;refine Qv.mk (fun hb=>?_) fun hb=>?_
  ·have hij:i<j:=by simpa using hb
   have hil:i<l.length:=by omega
   have hio:i<out.length:=by omega
   have hfs:(List.range (i+1)).foldl (mixS l out j) (List.replicate T 0)=mixS l out j c i:=by rw[List.range_succ,List.foldl_append,hc]<;>rfl
   simp[ZY hil];refine Qc (zu (at' l i) (at' l j) (hl.at hil) hej) ?_;rcases hd:depend (at' l i) (at' l j)<;>simp[wr1 i (by omega)]
   ·exact hnext2 _ (i+1,c) ⟨by simp;omega,by rw[hfs];simp[mixS,hd]⟩ (by simp;omega) twk
   ·have hdl:(out.getD i []).length=T:=by rw[List.getD_eq_getElem?_getD,List.getElem?_eq_getElem hio];exact hout _ (List.getElem_mem _)
    have hoi:out[i]=out.getD i []:=by rw[List.getD_eq_getElem?_getD,List.getElem?_eq_getElem hio]<;>rfl
    generalize out.getD i []=d at hdl hoi;have hms:mixS l out j c i=List.zipWith max c d:=by
     unfold mixS;rw[if_pos hd,List.getD_eq_getElem?_getD,List.getElem?_eq_getElem hio,hoi]<;>rfl
    simp[n1.symm,hol,hij,hoi];refine QB (α:=Nat × List Nat) (fun x=>x.1<=T/\x.2=List.zipWith max (c.take x.1) (d.take x.1)++c.drop x.1)
     (fun x=>[(0,.slice (l.map encE)),(1,.int .i64 T),(5,.vec (L,0) j),(7,.ptr (L1,0) 0),(8,.vec (L1,1) 1),(12,.slice (l.map encE)),(13,.int .i64 l.length),(14,.int .i64 j),(22,.int .i64 j),(23,.int .i64 i),(35,.slice (d.map encI)),(36,.int .i64 T),(37,.int .i64 x.1)])
     (fun x=>[((L1,1),.vec 3 1 (x.2.map encI) 1 true),((L1,0),.cells 88 (encE (at' l j)).cells),((L,0),.vec 33 1 (out.map encR) j true)]) (fun x=>T - x.1) (0,c) (by simp) (Qb (by simp[hdl]) (by simp) (by simp)) ?_
    rintro⟨t,c'⟩ L3 K3 ⟨htT,hc'⟩ hL3 - hnext3 hex3 hrt3 - -;simp at htT hc' hL3;have n4:L≠L3:=by omega
    have n5:L1≠L3:=by omega
    simp;refine Qv.mk (fun hb=>?_) fun hb=>?_
    ·have htl:t<T:=by simpa using hb
     have q1:t<c.length:=by omega
     have q2:t<d.length:=by omega
     have hl':c'.length=T:=by rw[hc'];simp;omega
     have q3:t<c'.length:=by omega
     have hz:=zip_step q1 q2;rw[<- hc'] at hz;have hct:c'[t]=c[t]:=by
      have:c'[t]? = some c[t]:=by
       rw[hc',List.getElem?_append_right (by simp;omega),List.getElem?_drop];simp only[List.length_zipWith,List.length_take];rw[show t+(t - min (min t c.length) (min t d.length))=t by omega,List.getElem?_eq_getElem q1]
      rw[List.getElem?_eq_getElem q3] at this;simpa using this
     generalize hcv:c[t]=a at *;generalize hdv:d[t]=b at *;have hmx:(if a<b then (b:Int) else a)=((max a b:Nat):Int):=by split<;>omega
     simp[q2,q3,hdv,hct,hmx,wr1 t (by omega)];exact hnext3 _ (t+1,c'.set t (max a b)) ⟨by simp;omega,hz⟩ (by simp;omega) (Qb (by simp) (by simp[List.map_set]) (by simp))
    ·refine hex3 _ _ ?_;have htl:¬ t<T:=by simpa using hb
     have e:c' = List.zipWith max c d:=by rw[hc',List.take_of_length_le (by omega),List.take_of_length_le (by omega),List.drop_eq_nil_of_le (by omega),List.append_nil]
     simp[wr1 i (by omega)];exact hnext2 _ (i+1,c') ⟨by simp;omega,by rw[hfs,hms,e]⟩ (by simp;omega) twk
  ·refine hex2 _ _ ?_;have hij:¬ i<j:=by simpa using hb
   have hii:i=j:=by omega
   subst hii;have hrow:UD l T out i=bump c (at' l i).t.toNat:=by unfold UD;rw[hc]
   have c1:out.length<=9223372036854775806:=by omega
   have c2:(out.length+1)*24<=140737488355328:=by omega
   have c3:i<=9223372036854775806:=by omega
   have c4:(i+1)*24<=140737488355328:=by omega
   obtain⟨tn,htn⟩:∃ tn:Nat,(at' l i).t=tn:=⟨(at' l i).t.toNat,by omega⟩
   have fin:∀ τ' cs c2,(∀ p,p∈[((0:Nat),V.slice (l.map encE)),(1,.int .i64 T),(5,.vec (L,0) (i+1)),(12,.slice (l.map encE)),(13,.int .i64 l.length),(14,.int .i64 (i+1:Nat))]->τ'.lookup p.1=some p.2)->c2=bump c (at' l i).t.toNat->
    Turn TC ⟨τ',[((L1,1),.vec 3 1 (c2.map encI) 1 true),((L1,0),.cells 88 cs),((L,0),.vec 33 1 (out.map encR++[.vec (L1,1) 1]) (i+1) true)],76,L,1⟩
     ⟨[(0,.slice (l.map encE)),(1,.int .i64 T),(5,.vec (L,0) (i+1)),(12,.slice (l.map encE)),(13,.int .i64 l.length),(14,.int .i64 (i+1:Nat))],[((L,0),.vec 33 1 ((XL l T (i+1)).map encR) (i+1) true)],76,L,1⟩:=fun τ' cs c2 hτ hc2=>by
    refine Vg [((L1,1),.vec 3 1 (c2.map encI) 1 true)] [((L,0),.vec 33 1 (out.map encR++[.vec (L1,1) 1]) (i+1) true)] (fun p hp=>⟨p.2,hτ p hp,.refl _⟩) (by simp) (by simp) (by simp) (by simp[n1,n1.symm]) ?_;rw[hsucc,hrow,<- hc2];simp only[List.map_append,List.map_cons,List.map_nil];exact .cons (.vec (zM (Qn _) (.cons (.vec (t:=3) (s:=1) (es:=c2.map encI) (wr:=true) (by simp) (Qn _)) .nil))) .nil
   have ht0:(0:Int)<=(at' l i).t:=htj.1;rcases htc:decide (tn<T)<;>simp[n1.symm,htn,hcl,htc,c3,c4,hol,wr1 i (by omega)]
   ·have:bump c tn=c:=by unfold bump;rw[List.modify_eq_self];simp at htc;omega
    refine hnext _ (i+1) (by omega) (by omega) (fin _ _ c (by simp) (by rw[htn];simp[this]))
   ·have q1:tn<c.length:=by simp at htc;omega
    have q2:tn<T:=by omega
    have hcs:(c.map encI).set tn (.int .i64 ((c[tn]+1:Nat):Int))=(bump c tn).map encI:=by
     unfold bump;rw[qC encI _ q1]<;>rfl
    have hv:c[tn]<=i:=uM hbd (List.range i) (List.replicate T 0) (by intro x hx;have:=(List.mem_replicate.1 hx).2;omega) c[tn] (by rw[<- hc];exact List.getElem_mem _);simp[n1.symm,hcl,c3,c4,hol,wr1 i (by omega),wr1 c[tn] (by omega),q2];refine hnext _ (i+1) (by omega) (by omega) ?_;have h:=fun τ' cs hτ=>fin τ' cs (bump c tn) hτ (by rw[htn];simp);simp only[<- hcs] at h;exact h _ _ (by simp)
 ·refine hex _ _ ?_;have hkn:¬ j<l.length:=by simpa using hb
  have hjl:j=l.length:=by omega
  subst hjl;simp;exact hR _ (.pure rfl (.vec (t:=33) (s:=1) (es:=(Xs l T).map encR) (wr:=true) (by simp[Xs]) (Qn _)))
def encO (l:List Ev):V:=.agg [.slice (l.map encE),.slice ((Xs l (WB l)).map encR),.slice ((nthP l).map encI)]
theorem QZz (l:List Ev) (s:List Nat × List Nat) (B:Nat) (h:∀ x∈s.1,x<=B):∀ x∈(l.foldl nthS s).1,x<=B+l.length:=by
 induction l generalizing s B with
 | nil=>simpa using h
 | cons e l ih=>
   intro x hx;have:=ih (nthS s e) (B+1) (vD h _) x hx;simp;omega
theorem Qgw (l:List Ev) (hl:Few l) (ht:Thr l):Ql TC 63 [.slice (l.map encE)] (encO l):=by
 have hl0:=hl.len;have hT:=QOw ht;have hgt:=fun {e:Ev} (he:e∈l)=>jz he;refine ent Tryz.func63 fun L K hL hR hN hP=>?_;simp;refine QB (α:=Nat × Nat) (fun x=>x.1<=l.length/\x.2=(l.take x.1).foldl (fun m e=>max m (e.t.toNat+1)) 0)
  (fun x=>[(0,.slice (l.map encE)),(2,.ptr (L,0) 0),(3,.int .i64 x.2),(10,.slice (l.map encE)),(11,.int .i64 l.length),(12,.int .i64 x.1)])
  (fun x=>[((L,0),.cells 157 [.snil,.snil,.snil])]) (fun x=>l.length - x.1) (0,0) (by simp) twk ?_
 rintro⟨k,m⟩ L1 K1 ⟨hk,hm⟩ hL1 - hnext hex hrt - -;simp at hk hm hL1;have n1:L≠L1:=by omega
 simp;refine Qv.mk (fun hb=>?_) fun hb=>?_
 ·have hlt:k<l.length:=by simpa using hb
  have hfs:=fold_succ (fun m (e:Ev)=>max m (e.t.toNat+1)) 0 hlt;rw[<- hm] at hfs;obtain⟨q1,q2⟩:=ht l[k] (List.getElem_mem _);have hx:l[k]? = some l[k]:=List.getElem?_eq_getElem hlt;generalize l[k]=e at hfs q1 q2 hx;obtain⟨tn,htn⟩:∃ tn:Nat,e.t=tn:=⟨e.t.toNat,by omega⟩
  have hmx:(if (m:Int)<(tn:Int)+1 then (tn:Int)+1 else m)=((max m (tn+1):Nat):Int):=by split<;>omega
  simp[hx,htn,wr1 tn (by omega),wr1 k (by omega),hmx];exact hnext _ (k+1,max m (tn+1)) ⟨by simp;omega,by rw[hfs,htn];rfl⟩ (by simp;omega) twk
 ·refine hex _ _ ?_;have hkn:¬ k<l.length:=by simpa using hb
  rw[List.take_of_length_le (by omega)] at hm;have hm:m=WB l:=hm;rw[<- hm] at hT hgt;have c0:m*8<=140737488355328:=by omega
  have c1:(m:Int)<=9223372036854775807:=by omega
  simp;refine Qc (Clocks_ok l m hl ht (by omega)) ?_;simp[c0,c1];refine Qw (Xf (id:=(L,1)) (t:=157) (o:=2) (el:=3) (sz:=1) (cs:=[.slice (l.map encE),.slice ((Xs l m).map encR),.snil]) (by simp) rfl (by decide)) ?_;simp;refine QB (α:=Nat × List Nat × List Nat) (fun x=>x.1<=l.length/\(x.2.1,x.2.2)=(l.take x.1).foldl nthS (List.replicate m 0,[]))
   (fun x=>[(2,.ptr (L,0) 0),(6,.ptr (L,1) 0),(7,.vec (L,2) 1),(29,.slice (l.map encE)),(30,.int .i64 l.length),(31,.int .i64 x.1)])
   (fun x=>[((L,3),.vec 3 1 (x.2.2.map encI) x.1 true),((L,2),.vec 3 1 (x.2.1.map encI) 1 true),((L,1),.cells 157 [.slice (l.map encE),.slice ((Xs l m).map encR),.vec (L,3) x.1]),((L,0),.cells 157 [.snil,.snil,.snil])])
   (fun x=>l.length - x.1) (0,List.replicate m 0,[]) (by simp) twk ?_
  rintro⟨j,many,nth⟩ L2 K2 ⟨hj,hs⟩ hL2 - hnext2 hex2 hrt2 - -;simp at hj hs hL2;have n2:L≠L2:=by omega
  have hlen:=Qtz (l.take j) (List.replicate m 0,[]);have hmb:=QZz (l.take j) (List.replicate m 0,[]) 0 (by intro x hx;have:=(List.mem_replicate.1 hx).2;omega);rw[<- hs] at hlen hmb;obtain⟨hnl,hml⟩:=hlen;simp at hnl hml hmb;rw[Nat.min_eq_left hj] at hnl;simp;refine Qv.mk (fun hb=>?_) fun hb=>?_
  ·have hlt:j<l.length:=by simpa using hb
   have hfs:=fold_succ nthS (List.replicate m 0,[]) hlt;rw[<- hs] at hfs;obtain⟨q1,q2⟩:=ht l[j] (List.getElem_mem _);have hg:=hgt (List.getElem_mem hlt);have hx:l[j]? = some l[j]:=List.getElem?_eq_getElem hlt;generalize l[j]=e at hfs q1 q2 hx hg;obtain⟨tn,htn⟩:∃ tn:Nat,e.t=tn:=⟨e.t.toNat,by omega⟩
   rw[htn] at hg;simp at hg;have hq:tn<many.length:=by omega
   have hv:many[tn]<=l.length:=by have:=hmb _ (List.getElem_mem hq);omega
   have hcs:(many.map encI).set tn (.int .i64 ((many[tn]:Int)+1))=(bump many tn).map encI:=by
    unfold bump;rw[qC encI _ hq]<;>rfl
   have hb2:tn<(bump many tn).length:=by rw[JU];exact hq
   have hbv:(bump many tn)[tn]=many[tn]+1:=by
    have:(bump many tn)[tn]=if tn=tn then many[tn]+1 else many[tn]:=List.getElem_modify (· + 1) tn many tn hb2
    simpa using this
   have hfs2:nthS (many,nth) e=(bump many tn,nth++[many[tn]+1]):=by
    unfold nthS;simp only[htn,Int.toNat_natCast];rw[List.getD_eq_getElem?_getD,List.getElem?_eq_getElem hb2,hbv]<;>rfl
   have d1:j<=9223372036854775806:=by omega
   have d2:(j+1)*8<=140737488355328:=by omega
   simp[hx,n2.symm,htn,wr1 j (by omega),wr1 many[tn] (by omega),hq,hnl,d1,d2];exact hnext2 _ (j+1,bump many tn,nth++[many[tn]+1]) ⟨by simp;omega,by rw[hfs,hfs2]⟩ (by simp;omega) (Qb (by simp) (by simp[<- hcs]) (by simp))
  ·refine hex2 _ _ ?_;have hjn:¬ j<l.length:=by simpa using hb
   have hjl:j=l.length:=by omega
   subst hjl;have hfin:nth=nthP l:=by unfold nthP;rw[<- hm];rw[List.take_length] at hs;rw[<- hs]
   simp;refine hR _ (.pure (v:=.agg [.slice (l.map encE),.slice ((Xs l m).map encR),.vec (L,3) l.length]) (by simp[Qf,Qj]) ?_);unfold encO;rw[<- hm,<- hfin];exact .agg (.cons (.refl _) (.cons (.refl _) (.cons (.vec (t:=3) (s:=1) (es:=nth.map encI) (wr:=true) (by simp) (Qn _)) .nil)))
theorem Js (l:List Ev) (i j:Nat) (hl:Few l) (ht:Thr l) (hi:i<=1000) (hj:j<=1000):Ql TC 65 [encO l,.int .i64 i,.int .i64 j] (.bool (WH l i j)):=by
 have hl0:=hl.len;refine ent Tryz.func65 fun L K hL hR hN hP=>?_;have i0:¬ (i:Int)<0:=by omega
 have hnl:=Quq l;have hcl:=JJ l (WB l) l.length;have hrows:=wA l (WB l) l.length;by_cases h1:j<l.length
 ·by_cases h2:i<j
  ·have hil:i<l.length:=by omega
   obtain⟨q1,q2⟩:=ht _ (at_mem hil);have hgt:=jz (at_mem hil);obtain⟨tn,htn⟩:∃ tn:Nat,(at' l i).t=tn:=⟨(at' l i).t.toNat,by omega⟩
   have e1:¬ l.length<=j:=by omega
   have e2:¬ j<=i:=by omega
   have e3:¬ (tn:Int)<0:=by omega
   have hrow:(Xs l (WB l))[j]? = some ((Xs l (WB l)).getD j []):=by
    rw[List.getD_eq_getElem?_getD,List.getElem?_eq_getElem (by show j<(XL l (WB l) l.length).length;omega)]<;>rfl
   have hrl:((Xs l (WB l)).getD j []).length=WB l:=hrows _ (List.mem_of_getElem? hrow);have hc:((Xs l (WB l)).getD j [])[tn]? = some (((Xs l (WB l)).getD j []).getD tn 0):=by
    rw[List.getD_eq_getElem?_getD (l:=(Xs l (WB l)).getD j []),List.getElem?_eq_getElem (by rw[htn] at hgt;simp at hgt;omega)]<;>rfl
   have hw:(nthP l)[i]? = some ((nthP l).getD i 0):=by rw[List.getD_eq_getElem?_getD,List.getElem?_eq_getElem (by omega)]<;>rfl
   have hspec:WH l i j=decide ((nthP l).getD i 0<=((Xs l (WB l)).getD j []).getD tn 0):=by
    unfold WH;rw[htn];simp only[h1,h2,decide_true,Bool.true_and,Int.toNat_natCast]
   rw[hspec] at hR;generalize ((Xs l (WB l)).getD j []).getD tn 0=x at *;generalize (Xs l (WB l)).getD j []=row at *;generalize (nthP l).getD i 0=y at *;simp[encO,i0,e1,e2,e3,ZY hil,htn,hrow,hc,hw];refine hR _ (.pure rfl ?_);simp
  ·have e1:¬ l.length<=j:=by omega
   have e2:j<=i:=by omega
   have hspec:WH l i j=false:=by unfold WH;simp[h2]
   simp[encO,i0,e1,e2];refine hR _ (.pure rfl ?_);rw[hspec];simp
 ·have e1:l.length<=j:=by omega
  have hspec:WH l i j=false:=by unfold WH;simp[h1]
  simp[encO,i0,e1];refine hR _ (.pure rfl ?_);rw[hspec];simp
end Go.Awp.R3
