/- Code: a program of a text. -/
import Derived.Test.YtnielafbkgpgjaaGreatDoorX31
set_option linter.all false
set_option maxRecDepth 100000
set_option maxHeartbeats 8000000
namespace Go.Awp.R1
open Go Go.Awp Go.Proofs Go.Awp.Sp
def VF:Except Er Pg->V
 | .ok p=>.tup [Yw p,.int .i64 0,.int .i64 0]
 | .error e=>.tup [wL,.int .i64 e.1,.int .i64 e.2]
theorem zR:∀ (f:Nat) (l:List Tok) (e:Er),QL l->Xj f l = .error e->e.2≠0
 | 0,l,e,_,h=>by rw[Xj] at h;cases h;exact (by decide:(-1:Int)≠0)
 | f+1,l,e,hl,h=>by
   rw[Xj] at h;split at h
   ·cases h
   ·split at h
    ·rename_i e' h1;cases h;by_cases hk:Wz (hd l)=6
     ·unfold XU at h1;simp only[hk,if_true] at h1;cases h1;exact (by decide:errWord≠0)
     ·have:=zO (f:=f) (pos:=0) hl hk;rw[h1] at this;rcases this with h|h
      ·omega
      ·exact h.1
    ·rename_i d r h1;obtain⟨k1,s1⟩:=ZG hl.tok h1;split at h
     ·rename_i e' h2;cases h;exact zR f r _ (hl.sub k1.1 s1) h2
     ·cases h
theorem zF {s:Bs} {e:Er} (h:YI s = .error e):e.2≠0:=by
 unfold YI at h;split at h
 ·rename_i e' h1;cases h;exact wX h1
 ·rename_i l h1;have hx:=qW h1;exact zR _ _ _ ⟨hx.tok,hx.word⟩ h
theorem Qrw {s:Bs} {e:Er} (h:Zd s = .error e):e.2≠0:=by
 unfold Zd at h;split at h
 ·cases h;exact (by decide:(2:Int)≠0)
 ·exact zF h
theorem zU {ds:List Dc} {e:Er} (h:Ya ds = .error e):e.2≠0:=by
 unfold Ya at h;split at h
 ·rename_i e' h1;cases h;have key:∀ (ds:List Dc) (t:Decls),Xr t ds = .error e->e.2≠0:=fun ds=>by
   induction ds with
   | nil=>intro t h;rw[Xr] at h;cases h
   | cons d r ih=>
     intro t h;rw[Xr] at h;split at h
     ·rename_i e' h2;cases h;have h3:Wo t d = .error e':=by unfold Wo;rw[h2]
      have:=(UA h3).2;show e'≠0;omega
     ·exact ih _ h
  exact key _ _ h1
 ·split at h
  ·cases h;exact (by decide:wv≠0)
  ·simp only at h;split at h
   ·rename_i e' h1;cases h;have key:∀ (ds:List Dc) (ts:Qp),WT ts ds = .error e->e.2≠0:=fun ds=>by
     induction ds with
     | nil=>intro t h;rw[WT] at h;cases h
     | cons d r ih=>
       intro ts h;rw[WT] at h;split at h
       ·split at h
        ·rename_i e' h2;cases h;rcases Zx _ h2 with h|h|h<;>rw[h]<;>decide
        ·split at h
         ·rename_i e' h2;cases h;exact ih ts h2
         ·cases h
       ·exact ih ts h
    exact key _ _ h1
   ·cases h
theorem zero35frz {σ:Qa}:Frz σ (.agg [.snil,.snil,.int .i64 0,.snil,.int .i64 0]) wL:=.agg (.cons .snil (.cons .snil (.cons (.refl _) (.cons .snil (.cons (.refl _) .nil)))))
theorem Read_ok (s:Bs) (hs:s.length<=100000000000):Ql TC 22 [encS s] (VF (Jb s)):=by
 have hz:=jn;have hz4:=zero94;have hmt:=Zg;have hp:=PParse_ok s hs;refine ent Tryz.func22 fun L K hL hR hN hP=>?_;simp[hz];refine Qc hp ?_;have fail:∀ s' e,Jb s = .error e->Qf TC.P s' Tryz.f22.results.toList=some [.agg [.snil,.snil,.int .i64 0,.snil,.int .i64 0],.int .i64 e.1,.int .i64 e.2]->K .ret s':=fun s' e he h1=>by
  refine hR _ (.pures h1 (by simp) ?_);rw[he];exact .tup (.cons zero35frz (.cons (.refl _) (.cons (.refl _) .nil)))
 cases hq:Zd s with
 | error e=>
   have hne:=Qrw hq;have hnb:(e.2 != 0)=true:=by simpa using hne
   have hr:Jb s = .error e:=by
    unfold Zd at hq;unfold Jb;split at hq
    ·rename_i h;rw[if_pos h];cases hq;rfl
    ·rename_i h;rw[if_neg h,hq]
   simp[parseRes,hz,hnb];exact fail _ e hr (by simp[Qf,Qj])
 | ok ds=>
   have hlt:¬ 16384<s.length:=fun h=>by unfold Zd at hq;rw[if_pos h] at hq;cases hq
   have hq':YI s = .ok ds:=by unfold Zd at hq;rw[if_neg hlt] at hq;exact hq
   have hck:=ncheck_ok ds (wS (by omega) hq');simp[parseRes];refine Qc hck ?_;cases hc:Ya ds with
   | error e=>
     have hne:=zU hc;have hnb:(e.2 != 0)=true:=by simpa using hne
     have hr:Jb s = .error e:=by
      unfold Jb;rw[if_neg hlt,hq'];simp only[hc]
     simp[vB,ur,hz,hz4,hnb];exact fail _ e hr (by simp[Qf,Qj])
   | ok t=>
     have hmk:=Make_ok t ds (read_mk (by omega) hq' hc);rw[Ux] at hmk;simp[vB,Ux,hz4];refine Qc hmk ?_;cases hm:zI t ds with
     | none=>
       have hr:Jb s = .error (0,2):=by
        unfold Jb;rw[if_neg hlt,hq'];simp only[hc,hm]<;>rfl
       simp[jh,wL,hz];refine hR _ (.pures (by simp[Qf,Qj];rfl) (by simp) ?_);rw[hr];exact .refl _
     | some p=>
       have hr:Jb s = .ok p:=by
        unfold Jb;rw[if_neg hlt,hq'];simp only[hc,hm]
       simp[jh,Yw,hz];refine hR _ (.pures (by simp[Qf,Qj];rfl) (by simp) ?_);rw[hr];exact .refl _
end Go.Awp.R1
namespace Go.Awp.B
structure Mk where
 o:Int
 w:Bool
 deriving DecidableEq,Inhabited
structure Ev where
 t:Int
 m:List Mk
 deriving DecidableEq,Inhabited
def qd (out:List Mk) (m:Mk):List Mk:=
 match out.findIdx? (fun x=>x.o == m.o) with
 | none=>out++[m]
 | some i=>out.modify i fun x=>⟨x.o,x.w||m.w⟩
def Un (l:List Mk):List Mk:=l.foldl qd []
def ZW:List Mk->Mk->List Mk
 | [],x=>[x]
 | y::r,x=>if x.o<y.o then y::ZW r x else x::y::r
def YY (l:List Mk):List Mk:=l.foldl ZW []
def jC (l:List Mk):List Mk:=(YY l).reverse
def newE (t:Int) (l:List Mk):Ev:=⟨t,jC (Un l)⟩
theorem uf (l:List Mk) (x:Mk):(ZW l x).length=l.length+1:=by
 induction l with
 | nil=>rfl
 | cons y r ih=>unfold ZW;split<;>simp[ih]
theorem qe (l acc:List Mk):(l.foldl ZW acc).length=acc.length+l.length:=by
 induction l generalizing acc with
 | nil=>rfl
 | cons y r ih=>simp[ih,uf];omega
theorem sortM_length (l:List Mk):(jC l).length=l.length:=by simp[jC,YY,qe]
theorem addMark_length (out:List Mk) (m:Mk):(qd out m).length<=out.length+1:=by
 unfold qd;split<;>simp
theorem foldl_addMark_length (l acc:List Mk):(l.foldl qd acc).length<=acc.length+l.length:=by
 induction l generalizing acc with
 | nil=>simp
 | cons y r ih=>have:=ih (qd acc y);have:=addMark_length acc y;simp;omega
theorem newE_length (t:Int) (l:List Mk):(newE t l).m.length<=l.length:=by
 have:=foldl_addMark_length l [];simpa[newE,sortM_length,Un] using this
def clash (a b:List Mk):Bool:=a.any fun x=>b.any fun y=>x.o == y.o&&(x.w||y.w)
def depend (a b:Ev):Bool:=a.t == b.t||clash a.m b.m
def same (a b:Ev):Bool:=decide (a=b)
theorem fold_succ {α β:Type} (f:β->α->β) (a:β) {l:List α} {k:Nat} (h:k<l.length):(l.take (k+1)).foldl f a=f ((l.take k).foldl f a) l[k]:=by
 rw[List.take_add_one,List.getElem?_eq_getElem h,List.foldl_append]<;>rfl
structure Few (l:List Ev):Prop where
 len:l.length<=1000
 m:∀ e∈l,e.m.length<=1000
def at' (l:List Ev) (i:Nat):Ev:=l.getD i default
theorem ZY {l:List Ev} {i:Nat} (h:i<l.length):l[i]? = some (at' l i):=by simp[at',h]
theorem at_eq {l:List Ev} {i:Nat} (h:i<l.length):at' l i=l[i]:=by simp[at',h]
theorem at_mem {l:List Ev} {i:Nat} (h:i<l.length):at' l i∈l:=by rw[at_eq h];exact List.getElem_mem _
theorem Few.at {l:List Ev} (hl:Few l) {i:Nat} (h:i<l.length):(at' l i).m.length<=9223372036854775807:=by have:=hl.m _ (at_mem h);omega
def Yu (l:List Ev) (i:Nat):List Nat->Bool
 | []=>false
 | k::r=>if k=i then true else if depend (at' l k) (at' l i)=true then false else Yu l i r
def better (l:List Ev) (b:Option Nat) (i:Nat):Option Nat:=
 match b with
 | none=>some i
 | some b=>if (at' l i).t<(at' l b).t then some i else some b
def qP (l:List Ev) (left:List Nat):Option Nat:=left.foldl (fun b i=>if Yu l i left=true then better l b i else b) none
def JR (pk:List Nat->Option Nat):Nat->List Nat->List Nat
 | 0,_=>[]
 | n+1,left=>match pk left with
   | none=>[]
   | some b=>b::JR pk n (left.filter (· != b))
def qT (l:List Ev):List Nat:=JR (qP l) l.length (List.range l.length)
theorem zW (l:List Ev) (c:List Nat) (b:Option Nat):(∀ i,c.foldl (better l) b=some i->i∈c∨b=some i)/\(c.foldl (better l) b=none->c=[]/\b=none)/\
 (∀ i,c.foldl (better l) b=some i->(∀ j∈c,(at' l i).t<=(at' l j).t)/\∀ j,b=some j->(at' l i).t<=(at' l j).t):=by
 induction c generalizing b with
 | nil=>refine⟨fun i h=>.inr h,fun h=>⟨rfl,h⟩,fun i h=>⟨by simp,fun j hj=>?_⟩⟩;simp at h;rw[h] at hj;cases hj;exact Int.le_refl _
 | cons x c ih=>
   obtain⟨h1,h2,h3⟩:=ih (better l b x);have hb:∃ y,better l b x=some y/\(y=x∨b=some y)/\(at' l y).t<=(at' l x).t/\∀ j,b=some j->(at' l y).t<=(at' l j).t:=by
    cases b with
    | none=>exact⟨x,rfl,.inl rfl,Int.le_refl _,by simp⟩
    | some b=>
      unfold better;simp only;split
      ·rename_i h;exact⟨x,rfl,.inl rfl,Int.le_refl _,fun j hj=>by cases hj;omega⟩
      ·rename_i h;exact⟨b,rfl,.inr rfl,by omega,fun j hj=>by cases hj;exact Int.le_refl _⟩
   obtain⟨y,hy,hor,hle,hbj⟩:=hb;simp only[List.foldl_cons];refine⟨fun i hi=>?_,fun h=>?_,fun i hi=>?_⟩
   ·rcases h1 i hi with h|h
    ·exact .inl (List.mem_cons_of_mem _ h)
    ·rw[hy] at h;cases h;rcases hor with rfl|h
     ·exact .inl List.mem_cons_self
     ·exact .inr h
   ·have:=(h2 h).2;rw[hy] at this;cases this
   ·obtain⟨q1,q2⟩:=h3 i hi;have:=q2 y hy;refine⟨fun j hj=>?_,fun j hj=>Int.le_trans this (hbj j hj)⟩;rcases List.mem_cons.1 hj with rfl|hj
    ·omega
    ·exact q1 j hj
theorem pick_none (l:List Ev) {left:List Nat} (h:qP l left=none):left=[]:=by
 unfold qP at h;rw[<- List.foldl_filter] at h;have:=(zW l _ none).2.1 h;cases left with
 | nil=>rfl
 | cons x r=>
   have h2:=this.1;rw[List.filter_cons] at h2;simp[Yu] at h2
theorem pick_some (l:List Ev) {left:List Nat} {b:Nat} (h:qP l left=some b):b∈left/\Yu l b left=true/\∀ j∈left,Yu l j left=true->(at' l b).t<=(at' l j).t:=by
 unfold qP at h;rw[<- List.foldl_filter] at h;obtain⟨h1,_,h3⟩:=zW l (left.filter fun i=>Yu l i left) none;have hm:=h1 b h;simp at hm;exact⟨hm.1,hm.2,fun j hj hf=>(h3 b h).1 j (List.mem_filter.2 ⟨hj,hf⟩)⟩
theorem Quz (l:List Ev) (n:Nat):JR (qP l) n []=[]:=by cases n<;>rfl
end Go.Awp.B
namespace Go.Awp.R3
open Go.Awp.R1 Go Go.Awp Go.Proofs Go.Awp.B
@[simp] theorem arrMark:arrT TC.P 49=none:=by kernel_rfl
@[simp] theorem arrRace:arrT TC.P 103=none:=by kernel_rfl
def encM (m:Mk):V:=.agg [.int .i64 m.o,.bool m.w]
def encE (e:Ev):V:=.agg [.int .i64 e.t,.slice (e.m.map encM)]
theorem QGq {a b:List Mk} (h:∀ k (hk:k<a.length),(b.any fun y=>a[k].o == y.o&&(a[k].w||y.w))=false):clash a b=false:=by
 unfold clash;rw[List.any_eq_false];intro x hx;obtain⟨k,hk,rfl⟩:=List.getElem_of_mem hx;simpa using h k hk
abbrev short {α:Type} (l:List α):Prop:=l.length<=9223372036854775807
theorem vT (a b:List Mk) (ha:short a) (hb:short b):Ql TC 100 [.slice (a.map encM),.slice (b.map encM)] (.bool (clash a b)):=by
 refine ent Tryz.func100 fun L K hL hR hN hP=>?_;simp;refine QB (α:=Nat) (fun k=>k<=a.length/\∀ i (hi:i<a.length),i<k->(b.any fun y=>a[i].o == y.o&&(a[i].w||y.w))=false)
  (fun k=>[(1,.slice (b.map encM)),(9,.slice (a.map encM)),(10,.int .i64 a.length),(11,.int .i64 k)]) (fun _=>[]) (fun k=>a.length - k) 0 (by simp)
  twk ?_
 rintro k L1 K1 ⟨hk,hpre⟩ hL1 _ hnext hex hrt - -;simp;refine Qv.mk (fun h=>?_) (fun h=>?_)
 ·have hlt:k<a.length:=by simpa using h
  have hx:a[k]? = some a[k]:=List.getElem?_eq_getElem hlt;simp[hx,encM];refine QB (α:=Nat) (fun j=>j<=b.length/\∀ i (hi:i<b.length),i<j->(a[k].o == b[i].o&&(a[k].w||b[i].w))=false)
   (fun j=>[(1,.slice (b.map encM)),(9,.slice (a.map encM)),(10,.int .i64 a.length),(11,.int .i64 k),(6,.ptr (L1,0) 0),(15,.slice (b.map encM)),(16,.int .i64 b.length),(17,.int .i64 j)])
   (fun _=>[((L1,0),.cells 49 [.int .i64 a[k].o,.bool a[k].w])]) (fun j=>b.length - j) 0 (by simp) twk ?_
  rintro j L2 K2 ⟨hj,hpre2⟩ hL2 hk2 hnext2 hex2 hrt2 - -;simp at hk2;simp;refine Qv.mk (fun hb1=>?_) (fun hb1=>?_)
  ·have hlt2:j<b.length:=by simpa using hb1
   have hy:b[j]? = some b[j]:=List.getElem?_eq_getElem hlt2;rcases h1:(a[k].o == b[j].o)<;>rcases h2:a[k].w<;>rcases h3:b[j].w<;>simp[hy,encM,Ne.symm hk2,h1,h3,wr1 j (by omega)]
   all_goals first
    | (refine hnext2 _ (j+1) ⟨by omega,?_⟩ (by omega) (Qb (by simp) (by simp[h2]) (by simp))
       intro i hi hij;by_cases e:i=j
       ·subst e;simp[h1,h2,h3]
       ·exact hpre2 i hi (by omega))
    | (refine hrt2 _ ?_;refine hrt _ ?_;refine hR _ (.pure rfl ?_)
       rw[show clash a b=true from List.any_eq_true.2 ⟨a[k],List.getElem_mem _,List.any_eq_true.2 ⟨b[j],List.getElem_mem _,by simp[h1,h2,h3]⟩⟩];exact .refl _)
  ·refine hex2 _ _ ?_;simp[wr1 k (by omega)];refine hnext _ (k+1) ⟨by omega,?_⟩ (by omega) twk;have hj2:¬ j<b.length:=by simpa using hb1
   intro i hi hik;by_cases e:i=k
   ·subst e;rw[List.any_eq_false];intro x hx;obtain⟨q,hq,rfl⟩:=List.getElem_of_mem hx;simpa using hpre2 q hq (by omega)
   ·exact hpre i hi (by omega)
 ·refine hex _ _ ?_;simp;refine hR _ (.pure rfl ?_);have hkn:¬ k<a.length:=by simpa using h
  rw[QGq fun i hi=>hpre i hi (by omega)];exact .refl _
theorem zu (a b:Ev) (ha:short a.m) (hb:short b.m):Ql TC 64 [encE a,encE b] (.bool (depend a b)):=by
 refine ent Tryz.func64 fun L K hL hR hN hP=>?_;have hc:=vT a.m b.m ha hb;rcases h1:(a.t == b.t)<;>simp[encE,h1]
 ·refine Qc hc ?_;simp;refine hR _ (.pure rfl ?_);simp[depend,h1];exact .refl _
 ·refine hR _ (.pure rfl ?_);simp[depend,h1];exact .refl _
theorem take_ext {α:Type} {a b:List α} (hl:a.length=b.length) (h:∀ i (h1:i<a.length) (h2:i<b.length),a[i]=b[i]):a=b:=List.ext_getElem hl h
theorem EqMarks_ok (a b:List Mk) (ha:short a) (hb:short b):Ql TC 18 [.slice (a.map encM),.slice (b.map encM)] (.bool (decide (a=b))):=by
 refine ent Tryz.func18 fun L K hL hR hN hP=>?_;have hne:((a.length:Int) != b.length) = !decide (a.length=b.length):=by simp[bne,BEq.beq,Int.ofNat_inj]
 by_cases hl:a.length=b.length<;>simp[hne,hl]
 ·refine QB (α:=Nat) (fun k=>k<=a.length/\∀ i (h1:i<a.length) (h2:i<b.length),i<k->a[i]=b[i])
   (fun k=>[(0,.slice (a.map encM)),(1,.slice (b.map encM)),(12,.int .i64 a.length),(13,.int .i64 k)]) (fun _=>[]) (fun k=>a.length - k) 0 (by simp)
   (Qb (by simp[hl]) (by simp) (by simp)) ?_
  rintro k L1 K1 ⟨hk,hpre⟩ hL1 _ hnext hex hrt - -;simp;refine Qv.mk (fun h=>?_) (fun h=>?_)
  ·have hlt:k<a.length:=by simpa using h
   have hx:a[k]? = some a[k]:=List.getElem?_eq_getElem hlt;have hy:b[k]? = some b[k]:=List.getElem?_eq_getElem (hl▸hlt);have hiff:a[k]=b[k]↔a[k].o=b[k].o/\a[k].w=b[k].w:=by
    constructor
    ·intro e;rw[e];exact⟨rfl,rfl⟩
    ·rintro⟨e1,e2⟩;cases ha:a[k];cases hb:b[k];simp_all
   rcases h1:(a[k].o == b[k].o)<;>rcases h2:(a[k].w == b[k].w)<;>simp[hx,hy,encM,h1,h2,wr1 k (by omega)]
   all_goals first
    | (refine hnext _ (k+1) ⟨by omega,?_⟩ (by omega) twk
       intro i q1 q2 hik;by_cases e:i=k
       ·subst e;exact hiff.2 ⟨by simpa using h1,by simpa using h2⟩
       ·exact hpre i q1 q2 (by omega))
    | (refine hrt _ ?_;refine hR _ (.pure rfl ?_)
       have:¬ a=b:=fun e=>by
        have e2:a[k]=b[k]:=by simp[e]
        have:=hiff.1 e2;simp[this.1,this.2] at h1 h2
       simp[this];exact .refl _)
  ·refine hex _ _ ?_;simp;refine hR _ (.pure rfl ?_);have hkn:¬ k<a.length:=by simpa using h
   have:a=b:=take_ext hl fun i q1 q2=>hpre i q1 q2 (by omega);simp[this];exact .refl _
 ·refine hR _ (.pure rfl ?_);have:¬ a=b:=fun e=>hl (by rw[e]);simp[this];exact .refl _
structure Tch where
 o:Int
 w:Bool
structure EE where
 t:Nat
 m:List Tch
def ix {α:Type} (l:List α) (p:α->Bool):Int:=match l.findIdx? p with|some i=>(i:Int)|none=>-1
theorem ix_some {α:Type} {l:List α} {p:α->Bool} {k:Nat} (h:k<l.length) (hp:p l[k]=true) (hn:∀ i (hi:i<l.length),i<k->p l[i]=false):ix l p=k:=by
 unfold ix;rw[List.findIdx?_eq_some_iff_getElem.2 ⟨h,hp,fun j hj=>by simpa using hn j (by omega) hj⟩]
theorem ix_none {α:Type} {l:List α} {p:α->Bool} (hn:∀ i (hi:i<l.length),p l[i]=false):ix l p = -1:=by
 unfold ix;rw[List.findIdx?_eq_none_iff.2 fun x hx=>by obtain⟨k,hk,rfl⟩:=List.getElem_of_mem hx;exact hn k hk]
theorem Qgz (l:List Mk) (p:Mk->Bool) (fid:FuncId) (cap:List V) (hl:short l) (h:∀ m∈l,Ql TC fid (encM m::cap) (.bool (p m))):Ql TC 30 [.slice (l.map encM),.func (.func fid) [] cap] (.int .i64 (ix l p)):=by
 refine ent Tryz.func30 fun L K hL hR hN hP=>?_;simp;refine QB (α:=Nat) (fun k=>k<=l.length/\∀ i (hi:i<l.length),i<k->p l[i]=false)
  (fun k=>[(0,.slice (l.map encM)),(1,.func (.func fid) [] cap),(7,.int .i64 l.length),(8,.int .i64 k)]) (fun _=>[]) (fun k=>l.length - k) 0 (by simp)
  twk ?_
 rintro k L1 K1 ⟨hk,hpre⟩ hL1 _ hnext hex hrt - -;simp;refine Qv.mk (fun hb=>?_) fun hb=>?_
 ·have hlt:k<l.length:=by simpa using hb
  have hx:l[k]? = some l[k]:=List.getElem?_eq_getElem hlt;simp[hx,encM];refine Qc (h l[k] (List.getElem_mem _)) ?_;rcases hp:p l[k]<;>simp[wr1 k (by omega)]
  ·refine hnext _ (k+1) ⟨by omega,fun i hi hik=>?_⟩ (by omega) twk;by_cases e:i=k
   ·subst e;exact hp
   ·exact hpre i hi (by omega)
  ·refine hrt _ ?_;refine hR _ (.pure rfl ?_);rw[ix_some hlt hp hpre];exact .refl _
 ·refine hex _ _ ?_;simp;refine hR _ (.pure rfl ?_);have hkn:¬ k<l.length:=by simpa using hb
  rw[ix_none fun i hi=>hpre i hi (by omega)];exact .refl _
theorem New1_ok (m x:Mk):Ql TC 52 [encM x,.rptr (encM m)] (.bool (x.o == m.o)):=by
 refine ent Tryz.func52 fun L K hL hR hN hP=>?_;simp[encM];refine hR _ (.pure rfl ?_);exact .refl _
def cmpI (a b:Int):Int:=if a<b then -1 else if b<a then 1 else 0
theorem Qyw (a:Int):Ql TC 80 [.int .i64 a] (.bool false):=by
 refine ent Tryz.func80 fun L K hL hR hN hP=>?_;simp;refine hR _ (.pure rfl ?_);exact .refl _
theorem Wmw (a b:Int):Ql TC 55 [.int .i64 a,.int .i64 b] (.int .i64 (cmpI a b)):=by
 refine ent Tryz.func55 fun L K hL hR hN hP=>?_;simp;refine Qc (Qyw a) ?_;simp;refine Qc (Qyw b) ?_;simp;refine Qv.mk (fun hb=>?_) fun hb=>?_
 ·simp;refine hR _ (.pure rfl ?_);have:a<b:=by simpa using hb
  simp[cmpI,this];exact .refl _
 ·simp;have h1:¬ a<b:=by simpa using hb
  refine Qv.mk (fun hb=>?_) fun hb=>?_
  ·simp;refine hR _ (.pure rfl ?_);have:b<a:=by simpa using hb
   simp[cmpI,this,h1];exact .refl _
  ·simp;refine hR _ (.pure rfl ?_);have:¬ b<a:=by simpa using hb
   simp[cmpI,this,h1];exact .refl _
theorem New2_ok (a b:Mk):Ql TC 54 [encM a,encM b] (.int .i64 (cmpI a.o b.o)):=by
 refine ent Tryz.func54 fun L K hL hR hN hP=>?_;simp[encM];refine Qc (Wmw a.o b.o) ?_;simp;refine hR _ (.pure rfl ?_);exact .refl _
theorem wrap_u8 {n:Int} (h1:0<=n) (h2:n<=255):IntKind.u8.wrap n=n:=by
 unfold IntKind.wrap;simp[IntKind.signed,IntKind.bits];omega
theorem wrap_u64 {n:Int} (h1:0<=n) (h2:n<=18446744073709551615):IntKind.u64.wrap n=n:=by
 unfold IntKind.wrap;simp[IntKind.signed,IntKind.bits];omega
theorem byteAt {S:ByteArray} {i:Nat} (h:i<S.size):S[i]? = some S[i]:=by simp[h]
theorem Len64_ok (n:Nat) (hn:n<=12):Va TC 128 [.int .u64 n] fun v=>∃ k,v = .int .i64 k:=by
 have h:n=0∨n=1∨n=2∨n=3∨n=4∨n=5∨n=6∨n=7∨n=8∨n=9∨n=10∨n=11∨n=12:=by omega
 rcases h with rfl|rfl|rfl|rfl|rfl|rfl|rfl|rfl|rfl|rfl|rfl|rfl|rfl
 all_goals
  refine ent Tryz.func128 fun L K hL hR hN hP=>?_;simp[atV,wrap_u8];rw[byteAt (Nat.le_of_ble_eq_true (by kernel_rfl))];simp only[Option.map_some];generalize UInt8.toNat _=b;simp;exact hR _ (.ZN rfl (.refl _) ⟨_,rfl⟩)
theorem Len_ok (n:Nat) (hn:n<=12):Va TC 79 [.int .u64 n] fun v=>∃ k,v = .int .i64 k:=by
 refine ent Tryz.func79 fun L K hL hR hN hP=>?_;simp;refine Qe.ZN (Len64_ok n hn) (by decide) rfl ?_;rintro _ ⟨k,rfl⟩;simp;exact hR _ (.ZN rfl (.refl _) ⟨_,rfl⟩)
theorem qO {es:List Mk} {i:Nat} (h:i<es.length):YY (es.take (i+1))=ZW (YY (es.take i)) es[i]:=by
 unfold YY;rw[List.take_add_one,List.getElem?_eq_getElem h,List.foldl_append]<;>rfl
theorem jB (l:List Mk):(YY l).length=l.length:=by simp -implicitDefEqProofs [YY,qe]
theorem QFw (a b:Int):cmpI a b<0↔a<b:=by unfold cmpI;split<;>(try split)<;>omega
theorem swap_down {A B T:List Mk} {x y:Mk} {j:Nat} (hj:A.length=j):(((A++y::x::(B++T)).set (j+1) y).set j x)=A++x::y::(B++T):=by
 subst hj;simp -implicitDefEqProofs
theorem Wlw (id:Id) (ver:Nat) (es:List Mk) (hl:short es):AFn TC 119 [.vec id ver,.int .i64 0,.int .i64 es.length,.func (.func 54) [] []] [(id,.vec 49 2 (es.map encM) ver true)]
 (fun _ o σ'=>o = .ret (.tup [])/\σ' = [(id,.vec 49 2 ((jC es).map encM) ver true)]):=by
 refine ent Tryz.func119 fun L K hL hR hN hP=>?_;simp -implicitDefEqProofs;refine QB (α:=Nat × List Mk) (fun x=>1<=x.1/\x.2=(YY (es.take x.1)).reverse++es.drop x.1)
  (fun x=>[(0,.vec id ver),(1,.int .i64 0),(2,.int .i64 es.length),(3,.func (.func 54) [] []),(8,.int .i64 x.1)])
  (fun x=>[(id,.vec 49 2 (x.2.map encM) ver true)]) (fun x=>es.length - x.1) (1,es) ⟨Nat.le_refl _,?_⟩ twk ?_
 ·cases es with
  | nil=>rfl
  | cons x es=>simp -implicitDefEqProofs [YY,ZW]
 rintro⟨i,D⟩ L1 K1 ⟨hi,hD⟩ hL1 hk1 hnext hex hrt - -;simp -implicitDefEqProofs at hD hi;simp -implicitDefEqProofs;refine Qv.mk (fun h=>?_) (fun h=>?_)
 ·have hlt:i<es.length:=by simpa using h
  have hlen:(YY (es.take i)).length=i:=by rw[jB];simp -implicitDefEqProofs;omega
  generalize hR':YY (es.take i)=R at hD hlen;have hdrop:es.drop i=es[i]::es.drop (i+1):=List.drop_eq_getElem_cons hlt;simp -implicitDefEqProofs;refine QB (α:=Nat × List Mk) (fun x=>x.1<=i/\ZW R es[i]=R.take (i - x.1)++ZW (R.drop (i - x.1)) es[i]/\x.2=(R.drop (i - x.1)).reverse++es[i]::((R.take (i - x.1)).reverse++es.drop (i+1)))
   (fun x=>[(0,.vec id ver),(1,.int .i64 0),(2,.int .i64 es.length),(3,.func (.func 54) [] []),(8,.int .i64 i),(9,.int .i64 x.1)])
   (fun x=>[(id,.vec 49 2 (x.2.map encM) ver true)]) (fun x=>x.1) (i,D) ⟨Nat.le_refl _,by simp -implicitDefEqProofs,by rw[hD,hdrop,Nat.sub_self];rfl⟩ twk ?_
  rintro⟨j,D'⟩ L2 K2 ⟨hj,hins,hD'⟩ hL2 hk2 hnext2 hex2 hrt2 - -;simp -implicitDefEqProofs at hD' hj hins;have fin:ZW (R.drop (i - j)) es[i]=es[i]::R.drop (i - j)->D' = (YY (es.take (i+1))).reverse++es.drop (i+1):=fun e=>by
   rw[qO hlt,hR',hins,e,hD'];simp -implicitDefEqProofs
  rcases hj0:j with _|j'
  ·simp -implicitDefEqProofs;refine hex2 _ _ ?_;simp -implicitDefEqProofs [wr1 i (by omega)];refine hnext _ (i+1,D') ⟨by simp -implicitDefEqProofs,?_⟩ (by simp -implicitDefEqProofs;omega) twk;subst hj0;exact fin (by rw[List.drop_eq_nil_of_le (by omega)];rfl)
  ·subst hj0;have hy:i - (j' + 1)<R.length:=by omega
   generalize hyy:R[i - (j' + 1)]=y at *;have hdr:R.drop (i - (j' + 1))=y::R.drop (i - j'):=by rw[List.drop_eq_getElem_cons hy,hyy];congr 2;omega
   have htk:R.take (i - j')=R.take (i - (j' + 1))++[y]:=by
    rw[show i - j' = (i - (j' + 1))+1 by omega,List.take_add_one,List.getElem?_eq_getElem hy,hyy]<;>rfl
   have hA:(R.drop (i - j')).reverse.length=j':=by simp -implicitDefEqProofs;omega
   generalize hAA:(R.drop (i - j')).reverse=A at *;have hD2:D' = A++y::es[i]::((R.take (i - (j' + 1))).reverse++es.drop (i+1)):=by
    rw[hD',hdr];simp -implicitDefEqProofs [hAA]
   have g1:D'[j' + 1]? = some es[i]:=by rw[hD2,List.getElem?_append_right (by omega),hA];simp -implicitDefEqProofs
   have g0:D'[j']? = some y:=by rw[hD2,List.getElem?_append_right (by omega),hA];simp -implicitDefEqProofs
   have e1:=wrN j' (by omega);have q1:j' < D'.length:=by rw[hD2];simp -implicitDefEqProofs;omega
   have q2:j' + 1<D'.length:=by rw[hD2];simp -implicitDefEqProofs;omega
   have g1':D'[j' + 1]=es[i]:=(gS g1).2;have g0':D'[j']=y:=(gS g0).2;simp -implicitDefEqProofs [g1',g0',e1,encM,q1,q2];refine Qc (New2_ok es[i] y) ?_;rcases hc:decide (cmpI es[i].o y.o<0)<;>simp -implicitDefEqProofs [hc,e1,q1,q2,g1',g0',encM]
   ·refine hex2 _ _ ?_;simp -implicitDefEqProofs [wr1 i (by omega)];refine hnext _ (i+1,D') ⟨by simp -implicitDefEqProofs,fin ?_⟩ (by simp -implicitDefEqProofs;omega) twk;have:¬ es[i].o<y.o:=by rw[<- QFw];simpa using hc
    rw[hdr,ZW,if_neg this]
   ·refine hnext2 _ (j',(D'.set (j' + 1) y).set j' es[i]) ⟨by omega,?_,?_⟩ (by simp -implicitDefEqProofs) (Qb (by simp -implicitDefEqProofs) (by simp -implicitDefEqProofs [encM,List.map_set]) (by simp -implicitDefEqProofs))
    ·have:es[i].o<y.o:=by rw[<- QFw];simpa using hc
     rw[hins,hdr,ZW,if_pos this,htk];simp -implicitDefEqProofs
    ·rw[hD2,swap_down hA,htk,hAA];simp -implicitDefEqProofs
 ·refine hex _ _ ?_;simp -implicitDefEqProofs;have hlt:¬ i<es.length:=by simpa using h
  refine hN _ (.keeps [] [(id,.vec 49 2 (D.map encM) ver true)] rfl (by simp -implicitDefEqProofs) (by simp -implicitDefEqProofs) (by simp -implicitDefEqProofs) (by simp -implicitDefEqProofs) (by simp -implicitDefEqProofs) (.refl _) ⟨rfl,?_⟩);rw[hD,List.take_of_length_le (by omega),List.drop_eq_nil_of_le (by omega)];simp -implicitDefEqProofs [jC]
abbrev Sorts (id:Id) (ver:Nat) (es:List Mk):Nat->AOut->Qa->Prop:=fun _ o σ'=>o = .ret (.tup [])/\σ' = [(id,.vec 49 2 ((jC es).map encM) ver true)]
theorem Pdq_ok (id:Id) (ver:Nat) (es:List Mk) (k:Int) (hl:es.length<=12):AFn TC 78 [.vec id ver,.int .i64 0,.int .i64 es.length,.int .i64 k,.func (.func 54) [] []] [(id,.vec 49 2 (es.map encM) ver true)] (Sorts id ver es):=by
 refine ent Tryz.func78 fun L K hL hR hN hP=>?_;simp;refine QB (α:=Unit) (fun _=>True)
  (fun _=>[(0,.vec id ver),(1,.int .i64 0),(2,.int .i64 es.length),(3,.int .i64 k),(4,.func (.func 54) [] []),(10,.bool true),(11,.bool true)])
  (fun _=>[(id,.vec 49 2 (es.map encM) ver true)]) (fun _=>0) () trivial twk ?_
 rintro⟨⟩ L1 K1 - hL1 hk1 hnext hex hrt - -;have h12:(es.length:Int)<=12:=by omega
 simp[h12,wrN es.length (by omega)];refine Qe.gen (Wlw id ver es (by omega)) (by simp) (by simp) (by decide) rfl ?_ ?_
 ·rintro L' v σ' h1 h2 ⟨e,rfl⟩;cases e;simp[Qa.less];refine hrt _ ?_;exact hR _ (.keeps [] [(id,.vec 49 2 ((jC es).map encM) ver true)] rfl (by simp) (by simp) (by simp) (by simp) (by simp) (.refl _) ⟨rfl,rfl⟩)
 ·rintro L' v σ' h1 h2 ⟨e,rfl⟩;cases e
theorem QJw (id:Id) (ver:Nat) (es:List Mk) (hl:es.length<=12):AFn TC 53 [.vec id ver,.func (.func 54) [] []] [(id,.vec 49 2 (es.map encM) ver true)] (Sorts id ver es):=by
 refine ent Tryz.func53 fun L K hL hR hN hP=>?_;simp[wrap_u64 (n:=(es.length:Int)) (by omega) (by omega)];refine Qe.ZN (Len_ok es.length hl) (by decide) rfl ?_;rintro _ ⟨k,rfl⟩;simp;refine Qe.gen (Pdq_ok id ver es k hl) (by simp) (by simp) (by decide) rfl ?_ ?_
 ·rintro L' v σ' h1 h2 ⟨e,rfl⟩;cases e;simp[Qa.less];exact hN _ (.keeps [] [(id,.vec 49 2 ((jC es).map encM) ver true)] rfl (by simp) (by simp) (by simp) (by simp) (by simp) (.refl _) ⟨rfl,rfl⟩)
 ·rintro L' v σ' h1 h2 ⟨e,rfl⟩;cases e
theorem QYz {l:List Mk} {k:Nat} (h:k<l.length):Un (l.take (k+1))=qd (Un (l.take k)) l[k]:=by
 unfold Un;rw[List.take_add_one,List.getElem?_eq_getElem h,List.foldl_append]<;>rfl
theorem qC {α β:Type} (f:α->β) {l:List α} {i:Nat} (g:α->α) (h:i<l.length):(l.modify i g).map f=(l.map f).set i (f (g l[i])):=by
 apply List.ext_getElem
 ·simp
 ·intro j h1 h2;simp only[List.getElem_map,List.getElem_modify,List.getElem_set];split
  ·rename_i e;subst e;rfl
  ·rfl
theorem VZ (t:Int) (l:List Mk) (hl:l.length<=12):Ql TC 29 [.int .i64 t,.slice (l.map encM)] (encE (newE t l)):=by
 refine ent Tryz.func29 fun L K hL hR hN hP=>?_;simp;refine Qw (WM (t:=5) (el:=49) (sz:=2) (by simp) (by decide)) ?_;refine QB (α:=Nat × List Mk) (fun x=>x.1<=l.length/\x.2=Un (l.take x.1)/\x.2.length<=x.1)
  (fun x=>[(0,.int .i64 t),(4,.ptr (L,0) 0),(5,.vec (L,1) x.2.length),(9,.slice (l.map encM)),(10,.int .i64 l.length),(11,.int .i64 x.1)])
  (fun x=>[((L,1),.vec 49 2 (x.2.map encM) x.2.length true),((L,0),.cells 88 [.int .i64 0,.snil])]) (fun x=>l.length - x.1) (0,[]) (by simp[Un]) twk ?_
 rintro⟨k,out⟩ L1 K1 ⟨hk,hout,hlen⟩ hL1 hk1 hnext hex hrt - -;simp at hk hout hlen hk1 hL1;simp;refine Qv.mk (fun h=>?_) (fun h=>?_)
 ·have hlt:k<l.length:=by simpa using h
  have hx:l[k]? = some l[k]:=List.getElem?_eq_getElem hlt;have hms:=QYz hlt;rw[<- hout] at hms;generalize l[k]=m at hx hms;simp[hx,encM];refine Qe.borrow (Qgz out (fun x=>x.o == m.o) 52 [.rptr (encM m)] (by omega) fun x _=>New1_ok m x) (.cons (.vec (t:=49) (s:=2) (es:=out.map encM) (wr:=true) (by simp[Ne.symm hk1]) (Qn _)) (.cons (.func .nil (.cons (.cells (t:=49) (cs:=[.int .i64 m.o,.bool m.w]) (by simp) (Qn _)) .nil)) .nil)) rfl (by decide) ?_;rcases hfi:out.findIdx? (fun x=>x.o == m.o) with _|i
  ·have hix:ix out (fun x=>x.o == m.o) = -1:=by unfold ix;rw[hfi]
   have hadd:qd out m=out++[m]:=by unfold qd;rw[hfi]
   have c1:out.length<=9223372036854775806:=by omega
   have c2:(out.length+1)*16<=140737488355328:=by omega
   simp[hix,Ne.symm hk1,c1,c2,wr1 k (by omega)];refine hnext _ (k+1,out++[m]) ⟨by simp;omega,by rw[hms,hadd],by simp;omega⟩ (by simp;omega) (Qb (by simp) (by simp[encM]) (by simp))
  ·obtain⟨hi,hp,-⟩:=List.findIdx?_eq_some_iff_getElem.1 hfi;have hix:ix out (fun x=>x.o == m.o)=i:=by unfold ix;rw[hfi]
   have hadd:qd out m=out.modify i fun x=>⟨x.o,x.w||m.w⟩:=by unfold qd;rw[hfi]
   have hn:¬ (i:Int)<0:=by omega
   rcases hw:out[i].w<;>simp[hix,Ne.symm hk1,hn,hi,encM,hw,wr1 k (by omega)]
   all_goals
    refine hnext _ (k+1,out.modify i fun x=>⟨x.o,x.w||m.w⟩) ⟨by simp;omega,by rw[hms,hadd],by simp;omega⟩ (by simp;omega) (Qb (by simp) ?_ (by simp));simp[qC encM _ hi,encM,hw]
 ·refine hex _ _ ?_;have hkn:¬ k<l.length:=by simpa using h
  have hkl:k=l.length:=by omega
  subst hkl;rw[List.take_length] at hout;simp;refine Qe.gen (QJw (L,1) out.length out (by omega)) (by simp) (by simp) (by decide) rfl ?_ ?_
  ·rintro L' v σ' h1 h2 ⟨e,rfl⟩;cases e;simp[Qa.less];subst hout;exact hR _ (.pure (v:=.agg [.int .i64 t,.vec (L,1) (Un l).length]) (by simp[Qf,Qj]) (.agg (.cons (.refl _) (.cons (.vec (t:=49) (s:=2) (es:=(jC (Un l)).map encM) (wr:=true) (by simp) (Qn _)) .nil))))
  ·rintro L' v σ' h1 h2 ⟨e,rfl⟩;cases e
def encI (n:Nat):V:=.int .i64 n
attribute [simp] encI encM encE
theorem yR (a b:Nat):((a:Int) == (b:Int))=decide (a=b):=by rw[Bool.eq_iff_iff];simp -implicitDefEqProofs;omega
theorem int_bne (a b:Nat):((a:Int) != (b:Int)) = !decide (a=b):=by rw[bne,yR]
theorem QBz (l:List Ev) (left:List Nat) (i:Nat) (hl:Few l) (h1:left.length<=1000) (h2:∀ k∈left,k<l.length) (hi:i<l.length):
 Ql TC 101 [.slice (l.map encE),.slice (left.map encI),encI i] (.bool (Yu l i left)):=by
 refine ent Tryz.func101 fun L K hL hR hN hP=>?_;simp -implicitDefEqProofs;refine QB (α:=Nat) (fun k=>k<=left.length/\Yu l i left=Yu l i (left.drop k))
  (fun k=>[(0,.slice (l.map encE)),(2,encI i),(9,.slice (left.map encI)),(10,.int .i64 left.length),(11,.int .i64 k)]) (fun _=>[]) (fun k=>left.length - k) 0 (by simp -implicitDefEqProofs)
  twk ?_
 rintro k L1 K1 ⟨hk,hpre⟩ hL1 _ hnext hex hrt - -;simp -implicitDefEqProofs;refine Qv.mk (fun hb=>?_) fun hb=>?_
 ·have hlt:k<left.length:=by simpa using hb
  have hx:left[k]? = some left[k]:=List.getElem?_eq_getElem hlt;have hdr:left.drop k=left[k]::left.drop (k+1):=List.drop_eq_getElem_cons hlt;have hm:left[k]<l.length:=h2 _ (List.getElem_mem _);generalize left[k]=j at hx hdr hm;rw[hdr] at hpre;by_cases e:j=i
  ·subst e;simp -implicitDefEqProofs [hx,encI];refine hrt _ ?_;refine hR _ (.pure rfl ?_);rw[hpre];simp -implicitDefEqProofs [Yu];exact .refl _
  ·have hc:=zu (at' l j) (at' l i) (hl.at hm) (hl.at hi);simp -implicitDefEqProofs [hx,encI,yR,e,ZY hm,ZY hi,encE];refine Qc hc ?_;rcases hd:depend (at' l j) (at' l i)<;>simp -implicitDefEqProofs [wr1 k (by omega)]
   ·refine hnext _ (k+1) ⟨by omega,by rw[hpre];simp -implicitDefEqProofs [Yu,e,hd]⟩ (by omega) twk
   ·refine hrt _ ?_;refine hR _ (.pure rfl ?_);rw[hpre];simp -implicitDefEqProofs [Yu,e,hd];exact .refl _
 ·refine hex _ _ ?_;simp -implicitDefEqProofs;refine hR _ (.pure rfl ?_);have hkn:¬ k<left.length:=by simpa using hb
  rw[hpre,List.drop_eq_nil_of_le (by omega)];exact .refl _
theorem yw (a b:List Nat) (ha:short a) (hb:short b):Ql TC 10 [.slice (a.map encI),.slice (b.map encI)] (.bool (decide (a=b))):=by
 refine ent Tryz.func10 fun L K hL hR hN hP=>?_;by_cases hl:a.length=b.length<;>simp -implicitDefEqProofs [int_bne,hl]
 ·refine QB (α:=Nat) (fun k=>k<=a.length/\∀ i (h1:i<a.length) (h2:i<b.length),i<k->a[i]=b[i])
   (fun k=>[(0,.slice (a.map encI)),(1,.slice (b.map encI)),(12,.int .i64 a.length),(13,.int .i64 k)]) (fun _=>[]) (fun k=>a.length - k) 0 (by simp -implicitDefEqProofs)
   (Qb (by simp -implicitDefEqProofs [hl]) (by simp -implicitDefEqProofs) (by simp -implicitDefEqProofs)) ?_
  rintro k L1 K1 ⟨hk,hpre⟩ hL1 _ hnext hex hrt - -;simp -implicitDefEqProofs;refine Qv.mk (fun h=>?_) (fun h=>?_)
  ·have hlt:k<a.length:=by simpa using h
   have hlt2:k<b.length:=by omega
   by_cases he:a[k]=b[k]<;>simp -implicitDefEqProofs [List.getElem?_eq_getElem hlt,List.getElem?_eq_getElem hlt2,encI,int_bne,he,wr1 k (by omega)]
   ·refine hnext _ (k+1) ⟨by omega,?_⟩ (by omega) twk;intro i q1 q2 hik;by_cases e:i=k
    ·subst e;exact he
    ·exact hpre i q1 q2 (by omega)
   ·refine hrt _ ?_;refine hR _ (.pure rfl ?_);have:¬ a=b:=fun e=>he (by simp -implicitDefEqProofs [e]);simp -implicitDefEqProofs [this];exact .refl _
  ·refine hex _ _ ?_;simp -implicitDefEqProofs;refine hR _ (.pure rfl ?_);have hkn:¬ k<a.length:=by simpa using h
   have:a=b:=take_ext hl fun i q1 q2=>hpre i q1 q2 (by omega);simp -implicitDefEqProofs [this];exact .refl _
 ·refine hR _ (.pure rfl ?_);have:¬ a=b:=fun e=>hl (by rw[e]);simp -implicitDefEqProofs [this];exact .refl _
theorem QMw (l:List Nat) (p:Nat->Bool) (fid:FuncId) (cap:List V) (hl:short l) (h:∀ m∈l,Ql TC fid (encI m::cap) (.bool (p m))):Ql TC 138 [.slice (l.map encI),.func (.func fid) [] cap] (.int .i64 (ix l p)):=by
 refine ent Tryz.func138 fun L K hL hR hN hP=>?_;simp -implicitDefEqProofs;refine QB (α:=Nat) (fun k=>k<=l.length/\∀ i (hi:i<l.length),i<k->p l[i]=false)
  (fun k=>[(0,.slice (l.map encI)),(1,.func (.func fid) [] cap),(7,.int .i64 l.length),(8,.int .i64 k)]) (fun _=>[]) (fun k=>l.length - k) 0 (by simp -implicitDefEqProofs) twk ?_
 rintro k L1 K1 ⟨hk,hpre⟩ hL1 _ hnext hex hrt - -;simp -implicitDefEqProofs;refine Qv.mk (fun hb=>?_) fun hb=>?_
 ·have hlt:k<l.length:=by simpa using hb
  have hx:l[k]? = some l[k]:=List.getElem?_eq_getElem hlt;simp -implicitDefEqProofs [hx,encI];refine Qc (h l[k] (List.getElem_mem _)) ?_;rcases hp:p l[k]<;>simp -implicitDefEqProofs [wr1 k (by omega)]
  ·refine hnext _ (k+1) ⟨by omega,fun i hi hik=>?_⟩ (by omega) twk;by_cases e:i=k
   ·subst e;exact hp
   ·exact hpre i hi (by omega)
  ·refine hrt _ ?_;refine hR _ (.pure rfl ?_);rw[ix_some hlt hp hpre];exact .refl _
 ·refine hex _ _ ?_;simp -implicitDefEqProofs;refine hR _ (.pure rfl ?_);have hkn:¬ k<l.length:=by simpa using hb
  rw[ix_none fun i hi=>hpre i hi (by omega)];exact .refl _
theorem QKw (i b:Nat):Ql TC 103 [encI i,.rptr (encI b)] (.bool (i == b)):=by
 refine ent Tryz.func103 fun L K hL hR hN hP=>?_;simp -implicitDefEqProofs [encI,yR];refine hR _ (.pure rfl ?_);rw[show (i == b)=decide (i=b) from rfl];exact .refl _
theorem vZ {α:Type} {D:List α} {i:Nat} {v:α} (h:i<D.length):(D.set i v).take (i+1)=D.take i++[v]:=by
 rw[List.take_add_one,List.getElem?_set_self h,List.take_set_of_le (Nat.le_refl _)]<;>rfl
theorem ZE {α:Type} (p:α->Bool) {es:List α} {j:Nat} (h:j<es.length):(es.take (j+1)).filter p=(es.take j).filter p++if p es[j]=true then [es[j]] else []:=by
 rw[List.take_add_one,List.getElem?_eq_getElem h,List.filter_append];cases hp:p es[j]<;>simp[hp]
theorem DelInt_ok (id:Id) (ver:Nat) (es:List Nat) (p:Nat->Bool) (fid:FuncId) (cap:List V) (hl:es.length<=1000) (h:∀ m∈es,Ql TC fid (encI m::cap) (.bool (p m))) (hex:∃ m∈es,p m=true):
 AFn TC 102 [.vec id ver,.func (.func fid) [] cap] [(id,.vec 3 1 (es.map encI) ver true)] fun _ o σ'=>o = .ret (.vsub id ver 1 0 (es.filter (!p ·)).length)/\
  σ' = [(id,.vec 3 1 ((es.filter (!p ·)++List.replicate (es.length - (es.filter (!p ·)).length) 0).map encI) ver true)]:=by
 refine ent Tryz.func102 fun L K hL hR hN hP=>?_;simp;refine Qe.borrow (QMw es p fid cap (by omega) h) (.cons (.vec (t:=3) (s:=1) (es:=es.map encI) (wr:=true) (by simp) (Qn _)) (.cons (.refl _) .nil)) rfl (by decide) ?_;obtain⟨i0,hf⟩:∃ i0,es.findIdx? p=some i0:=by
  cases hq:es.findIdx? p with
  | some i=>exact⟨i,rfl⟩
  | none=>rw[List.findIdx?_eq_none_iff] at hq;obtain⟨m,h1,h2⟩:=hex;have:=hq m h1;simp[h2] at this
 have hix:ix es p=i0:=by unfold ix;rw[hf]
 obtain⟨hi0,hp0,hb0⟩:=List.findIdx?_eq_some_iff_getElem.1 hf;have hne:((i0:Int) == -1)=false:=by simp
 simp[hix,hne,wr1 i0 (by omega)];refine QB (α:=Nat × Nat × List Nat) (fun x=>x.2.1<x.1/\x.1<=es.length/\x.2.2.length=es.length/\x.2.2.take x.2.1=(es.take x.1).filter (!p ·)/\x.2.2.drop x.1=es.drop x.1)
  (fun x=>[(0,.vec id ver),(1,.func (.func fid) [] cap),(5,.int .i64 x.2.1),(6,.int .i64 x.1)])
  (fun x=>[(id,.vec 3 1 (x.2.2.map encI) ver true)]) (fun x=>es.length - x.1) (i0+1,i0,es) ⟨by simp,hi0,rfl,?_,rfl⟩ twk ?_
 ·show es.take i0=_;rw[ZE _ hi0];simp[hp0];refine (List.filter_eq_self.2 fun x hx=>?_).symm;obtain⟨k,hk,rfl⟩:=List.getElem_of_mem hx;have hk2:k<i0:=by simp at hk;omega
  simpa using hb0 k hk2
 rintro⟨j,i,D⟩ L1 K1 ⟨hij,hj,hD,hT,hDr⟩ hL1 hk1 hnext hex hrt - -;simp at hij hj hD hT hDr;simp[hD];refine Qv.mk (fun hb=>?_) fun hb=>?_
 ·have hlt:j<es.length:=by simpa using hb
  have hDj:D[j]'(by omega)=es[j]:=by
   have h1:=List.drop_eq_getElem_cons (l:=D) (i:=j) (by omega);have h2:=List.drop_eq_getElem_cons hlt;rw[hDr,h2] at h1;injection h1 with h1 _;exact h1.symm
  have hjD:j<D.length:=by omega
  have hiD:i<D.length:=by omega
  simp[hjD,hDj];refine Qc (h es[j] (List.getElem_mem _)) ?_;rcases hp:p es[j]<;>simp[wr1 j (by omega),wr1 i (by omega),hiD]
  ·refine hnext _ (j+1,i+1,D.set i es[j]) ⟨by simp;omega,by simp;omega,by simp[hD],?_,?_⟩ (by simp;omega) (Qb (by simp) (by simp[List.map_set]) (by simp))
   ·show (D.set i es[j]).take (i+1)=_;rw[vZ hiD,ZE _ hlt,hT];simp[hp]
   ·show (D.set i es[j]).drop (j+1)=es.drop (j+1);rw[List.drop_set_of_lt (by omega),<- List.drop_drop,hDr,List.drop_drop]
  ·refine hnext _ (j+1,i,D) ⟨by simp;omega,by simp;omega,by simp[hD],?_,?_⟩ (by simp;omega) twk
   ·show D.take i=_;rw[ZE _ hlt,hT];simp[hp]
   ·show D.drop (j+1)=es.drop (j+1);rw[<- List.drop_drop,hDr,List.drop_drop]
 ·refine hex _ _ ?_;have hjn:¬ j<es.length:=by simpa using hb
  have hT:D.take i=es.filter (!p ·):=by rw[hT,List.take_of_length_le (l:=es) (by omega)]
  have hlen:(es.filter (!p ·)).length=i:=by rw[<- hT];simp;omega
  have hin:i<=D.length:=by omega
  have hsplit:D.take i++List.replicate (D.length - i) 0=es.filter (!p ·)++List.replicate (es.length - (es.filter (!p ·)).length) 0:=by rw[hT,hlen,hD]
  have hne2:¬ (D.length - i=0):=by omega
  have ho:Ye (D.map encI) i (List.replicate (D.length - i) (V.int .i64 0))=(es.filter (!p ·)++List.replicate (es.length - (es.filter (!p ·)).length) 0).map encI:=by
   rw[<- hsplit];unfold Ye;rw[List.drop_eq_nil_of_le (by simp;omega)];simp[List.map_take]
  have hof:(Ye (D.map encI) i (List.replicate (D.length - i) (V.int .i64 0))).length=es.length:=by rw[ho];simp;omega
  simp[hin,hne2,hof,show i<=es.length by omega];refine hR _ (.keep [] [(id,.vec 3 1 (Ye (D.map encI) i (List.replicate (D.length - i) (V.int .i64 0))) ver true)] rfl (by simp) (by simp) (by simp) (by simp) (.refl _) ⟨?_,by rw[ho]⟩);rw[hlen]
end Go.Awp.R3
