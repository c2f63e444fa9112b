/- The plain law, text S3: the instructions that may come: two ways to find them. No program is in sight. -/
import Derived.Test.YtnielafbkgpgjaaGreatDoorX34
import Derived.Test.YtnielafbkgpgjaaGreatDoorX37
set_option linter.all false
set_option maxRecDepth 100000
set_option maxHeartbeats 8000000
namespace Go.Awp.Sp
def YX (x:Ins) (i:Nat):List Int:=(if x.kind=15∨x.kind=16 then [x.Jc] else [])++(if x.kind≠16 then [(i:Int)+1] else [])
def seenAt (s:List Bool) (i:Int):Bool:=s.getD i.toNat false
def dfs (c:List Ins):Nat->List Bool->List Int->List Bool
 | 0,s,_=>s
 | _+1,s,[]=>s
 | f+1,s,i::st=>
   if i<0∨(c.length:Int)<=i∨seenAt s i=true then dfs c f s st
   else dfs c f (s.set i.toNat true) ((YX (c.getD i.toNat default) i.toNat).reverse++st)
def trues (s:List Bool):List Nat:=(List.range s.length).filter fun i=>s.getD i false
def VG (c:List Ins) (pc:Int):List Bool:=dfs c (3*c.length+2) (List.replicate c.length false) [pc]
def Xz (c:List Ins) (pc:Int):List Nat:=trues (VG c pc)
inductive Rch (c:List Ins) (pc:Int):Nat->Prop
 | base (h0:0<=pc) (h:pc<c.length):Rch c pc pc.toNat
 | step {i:Nat} {k:Int} (h:Rch c pc i) (hk:k∈YX (c.getD i default) i) (h0:0<=k) (h1:k<c.length):Rch c pc k.toNat
theorem Yr (s:List Bool) (i j:Nat) (b:Bool):(s.set i b).getD j false=if i=j/\j<s.length then b else s.getD j false:=by
 simp only[List.getD_eq_getElem?_getD,List.getElem?_set];by_cases h:i=j
 ·subst h;by_cases h2:i<s.length<;>simp[h2]
 ·simp[h]
def unseen (s:List Bool):Nat:=s.countP (· == false)
theorem jv {s:List Bool} {i:Nat} (hi:i<s.length) (h:s.getD i false=false):unseen (s.set i true)+1=unseen s:=by
 induction s generalizing i with
 | nil=>simp at hi
 | cons b s ih=>
   cases i with
   | zero=>simp at h;subst h;simp[unseen]
   | succ i=>
     have:=ih (i:=i) (by simpa using hi) (by simpa using h);simp only[unseen,List.set_cons_succ,List.countP_cons] at this ⊢;omega
theorem vp {c:List Ins} {pc:Int}:∀ (f:Nat) (s:List Bool) (st:List Int),s.length=c.length->3*unseen s+st.length<f->
 (∀ j,s.getD j false=true->Rch c pc j)->(∀ i∈st,0<=i->i<c.length->Rch c pc i.toNat)->
 (∀ j,s.getD j false=true->∀ k∈YX (c.getD j default) j,0<=k->k<c.length->s.getD k.toNat false=true∨k∈st)->
 (0<=pc->pc<c.length->s.getD pc.toNat false=true∨pc∈st)->
 (dfs c f s st).length=c.length/\∀ j,(dfs c f s st).getD j false=true↔Rch c pc j
 | 0,_,_,_,hf,_,_,_,_=>by omega
 | f+1,s,[],hl,_,hA,_,hC,hD=>by
   refine⟨hl,fun j=>⟨hA j,fun h=>?_⟩⟩;rw[dfs]
   induction h with
   | base h0 h=>simpa using hD h0 h
   | step _ hk h0 h1 ih=>simpa using hC _ ih _ hk h0 h1
 | f+1,s,i::st,hl,hf,hA,hB,hC,hD=>by
   rw[dfs];split
   ·rename_i h;refine vp f s st hl (by simp at hf;omega) hA (fun k hk=>hB k (by simp[hk])) ?_ ?_
    ·intro j hj k hk h0 h1;rcases hC j hj k hk h0 h1 with e|e
     ·exact .inl e
     ·simp at e;rcases e with rfl|e
      ·rcases h with h|h|h
       ·omega
       ·omega
       ·exact .inl h
      ·exact .inr e
    ·intro h0 h1;rcases hD h0 h1 with e|e
     ·exact .inl e
     ·simp at e;rcases e with rfl|e
      ·rcases h with h|h|h
       ·omega
       ·omega
       ·exact .inl h
      ·exact .inr e
   ·rename_i h;simp only[not_or,Bool.not_eq_true] at h;obtain⟨h0,h1,h2⟩:=h;have hi:i.toNat<s.length:=by omega
    have hu:=jv hi h2;have hr:Rch c pc i.toNat:=hB i (by simp) (by omega) (by omega);have hsl:(YX (c.getD i.toNat default) i.toNat).length<=2:=by
     unfold YX;split<;>split<;>simp
    refine vp f _ _ (by simp[hl]) (by rw[List.length_cons] at hf;rw[List.length_append,List.length_reverse];omega) ?_ ?_ ?_ ?_
    ·intro j hj;rw[Yr] at hj;split at hj
     ·rename_i e;rw[<- e.1];exact hr
     ·exact hA j hj
    ·intro k hk k0 k1;rcases List.mem_append.1 hk with hk|hk
     ·exact .step hr (by simpa using hk) k0 k1
     ·exact hB k (by simp[hk]) k0 k1
    ·intro j hj k hk k0 k1;rw[Yr] at hj;by_cases e:i.toNat=j
     ·subst e;exact .inr (List.mem_append.2 (.inl (List.mem_reverse.2 hk)))
     ·rw[if_neg (by simp[e])] at hj;rcases hC j hj k hk k0 k1 with q|q
      ·left;rw[Yr];split
       ·rfl
       ·exact q
      ·simp at q;rcases q with rfl|q
       ·left;rw[Yr,if_pos ⟨rfl,hi⟩]
       ·exact .inr (by simp[q])
    ·intro k0 k1;rcases hD k0 k1 with q|q
     ·left;rw[Yr];split
      ·rfl
      ·exact q
     ·simp at q;rcases q with rfl|q
      ·left;rw[Yr,if_pos ⟨rfl,hi⟩]
      ·exact .inr (by simp[q])
theorem Ys (n j:Nat):(List.replicate n false).getD j false=false:=by
 simp only[List.getD_eq_getElem?_getD,List.getElem?_replicate];split<;>rfl
theorem zD (c:List Ins) (pc:Int):(VG c pc).length=c.length/\∀ j,(VG c pc).getD j false=true↔Rch c pc j:=by
 refine vp _ _ _ (by simp) ?_ ?_ ?_ ?_ ?_
 ·have:unseen (List.replicate c.length false)<=c.length:=by
   have:=List.countP_le_length (p:=(· == false)) (l:=List.replicate c.length false);simpa[unseen] using this
  simp;omega
 ·intro j hj;rw[Ys] at hj;cases hj
 ·intro i hi h0 h1;simp at hi;subst hi;exact .base h0 h1
 ·intro j hj;rw[Ys] at hj;cases hj
 ·intro _ _;exact .inr (by simp)
def qj (x:Ins) (i:Nat):List Int:=if x.kind=16 then [x.Jc] else if x.kind=15 then [(i:Int)+1,x.Jc] else [(i:Int)+1]
def put1 (n:Nat) (m:List Bool) (k:Int):List Bool:=if k<n then m.set k.toNat true else m
def YU (c:List Ins) (m:List Bool) (i:Nat):List Bool:=if m.getD i false then (qj (c.getD i default) i).foldl (put1 c.length) m else m
def pass (c:List Ins) (m:List Bool):List Bool:=(List.range c.length).foldl (YU c) m
def many (m:List Bool):Nat:=m.countP (· == true)
end Go.Awp.Sp
namespace Go.Awp.R1
open Go Go.Awp Go.Proofs Go.Awp.Sp
noncomputable def TCn (ex:List Nat):Ctx:={ TC with own:=[33],ex:=ex }
@[simp] theorem TCn_P {ex:List Nat}:(TCn ex).P=TC.P:=rfl
@[simp] theorem TCn_own {ex:List Nat}:(TCn ex).own=[33]:=rfl
@[simp] theorem TCn_ex {ex:List Nat}:(TCn ex).ex=ex:=rfl
def encNs (l:List Nat):V:=.slice (l.map fun (n:Nat)=>V.int .i64 (n:Int))
def stV (st:List Int):List V:=st.reverse.map (V.int .i64)
structure XR where
 f:Nat
 s:List Bool
 st:List Int
 v:Nat
theorem vM (t:Th) (pc:Int) (hc:t.code.length<=100000):Ql TC 11 [XA t,.int .i64 pc] (encNs (Xz t.code pc)):=by
 refine AFn.ctx (C:=TCn [1000046]) (C':=TC) rfl rfl ?_;refine ent Tryz.func11 fun L K hL hR hN hP=>?_;have c1:(t.code.length:Int)<=9223372036854775807:=by omega
 have c2:(t.code.length:Int)<=140737488355328:=by omega
 simp[XA,c1,c2];refine QB (α:=XR) (fun q=>VG t.code pc=dfs t.code q.f q.s q.st/\q.s.length=t.code.length/\3*unseen q.s+q.st.length<q.f/\q.f<=3*t.code.length+2)
  (fun q=>[(2,.ptr (L,0) 0),(5,.vec (L,1) 1),(6,.vec (L,2) q.v)])
  (fun q=>[((L,1),.vec 4 1 (q.s.map V.bool) 1 true),((L,2),.vec 3 1 (stV q.st) q.v true),((L,0),.cells 41 [.slice (t.code.map QM),.slice (t.regs.map encS)])])
  (fun q=>q.f) ⟨3*t.code.length+2,List.replicate t.code.length false,[pc],1⟩ ⟨rfl,by simp,?_,by simp⟩ (Qb (by simp) (by simp[stV]) (by simp)) ?_
 ·have:unseen (List.replicate t.code.length false)<=t.code.length:=by
   have:=List.countP_le_length (p:=(· == false)) (l:=List.replicate t.code.length false);simpa[unseen] using this
  simp;omega
 rintro⟨f,s,st,v⟩ L1 K1 ⟨hq,hsl,hf,hfb⟩ hL1 - hnext hex hrt - -;obtain⟨hLL,m4,m5⟩:=llu L hL1;simp at hq hsl hf hfb;cases st with
 | nil=>
   have hend:VG t.code pc=s:=by
    rw[hq];cases f with
    | zero=>omega
    | succ f=>rw[dfs]
   simp[stV];refine hex _ _ ?_;simp;have hL':Xz t.code pc=trues s:=by unfold Xz;rw[hend]
   refine Qw (WM (t:=9) (el:=3) (sz:=1) (by simp) (by decide)) ?_;refine QB (α:=Nat) (fun k=>k<=s.length) (fun k=>[(9,.vec (L,3) ((List.range k).filter fun i=>s.getD i false).length),(76,.vec (L,1) 1),(77,.int .i64 s.length),(78,.int .i64 (k:Int))])
    (fun k=>[((L,3),.vec 3 1 (((List.range k).filter fun i=>s.getD i false).map fun (n:Nat)=>V.int .i64 (n:Int)) ((List.range k).filter fun i=>s.getD i false).length true),((L,1),.vec 4 1 (s.map V.bool) 1 true)])
    (fun k=>s.length - k) 0 (by simp) twk ?_
   rintro k L2 K2 hk hL2 - hnext2 hex2 hrt2 - -;obtain⟨out,hout⟩:∃ out,(List.range k).filter (fun i=>s.getD i false)=out:=⟨_,rfl⟩
   have hol:out.length<=k:=by
    rw[<- hout];have:=List.length_filter_le (fun i=>s.getD i false) (List.range k);simpa using this
   have hr1:(List.range (k+1)).filter (fun i=>s.getD i false)=out++(if s.getD k false=true then [k] else []):=by
    rw[List.range_succ,List.filter_append,hout];congr 1;cases hg:s.getD k false with
    | false=>rw[List.filter_cons,if_neg (by rw[hg];decide)]<;>rfl
    | true=>rw[List.filter_cons,if_pos hg]<;>rfl
   rw[hout];simp;refine Qv.mk (fun hb=>?_) fun hb=>?_
   ·have hkl:k<s.length:=by simp at hb;omega
    have w1:=wr2 k;have e1:(0:Int)<=(k:Int):=by omega
    have e2:(k:Int)<s.length:=by omega
    have hgd:s.getD k false=s[k]:=by rw[List.getD_eq_getElem?_getD,List.getElem?_eq_getElem hkl]<;>rfl
    rw[hgd] at hr1;rcases hs:s[k]
    ·rw[hs] at hr1;simp at hr1;simp[e1,hkl,hs,w1];refine hnext2 _ (k+1) (by omega) (by omega) (Qb (by simp[hr1]) (by simp[hr1]) (by simp))
    ·rw[hs] at hr1;simp at hr1;have b1:out.length<=9223372036854775806:=by omega
     have b2:(out.length+1)*8<=140737488355328:=by omega
     simp[e1,hkl,hs,w1,b1,b2];refine hnext2 _ (k+1) (by omega) (by omega) (Qb (by simp[hr1]) (by simp[hr1]) (by simp))
   ·have hkl:k=s.length:=by simp at hb;omega
    subst hkl;simp;refine hex2 _ _ ?_;simp;refine hR _ (.pure (v:=.vec (L,3) out.length) (by simp[Qf,Qj]) ?_);rw[hL',trues,hout];exact .vec (t:=3) (s:=1) (es:=out.map fun (n:Nat)=>V.int .i64 (n:Int)) (wr:=true) (by simp[Qa.get]) (Qn _)
 | cons i r=>
   obtain⟨f,rfl⟩:∃ g,f=g+1:=⟨f - 1,by simp at hf;omega⟩
   rw[dfs] at hq;have hfr:3*unseen s+r.length<f:=by simp at hf;omega
   have hsv:stV (i::r)=stV r++[.int .i64 i]:=by unfold stV;simp
   have hsvl:(stV r).length=r.length:=by unfold stV;simp
   have hrl:(0:Int)<(r.length:Int)+1:=by omega
   have w1:IntKind.i64.wrap (r.length:Int)=r.length:=wrap_i64 (by omega) (by omega);have e0:(0:Int)<=(r.length:Int):=by omega
   have e1:(r.length:Int)<(r.length:Int)+1:=by omega
   have htk:(stV r).take r.length=stV r:=List.take_of_length_le (by omega);have htk2:(stV r++[V.int .i64 i]).take r.length=stV r:=by rw[List.take_append_of_le_length (by omega),htk]
   have hdl:seenAt s i=s.getD i.toNat false:=rfl;by_cases h0:i<0
   ·rw[if_pos (.inl h0)] at hq;have hd0:decide (i<0)=true:=by simp[h0]
    simp[hsv,hsvl,hrl,w1,h0];refine Qw ((Uf (t:=6) (id:=L) (j:=2) (ver:=v) (z:=1) (el:=3) (len:=r.length) (es:=stV r++[.int .i64 i]) (by simp) (by simp[Qa.get]) (by simp[hsvl])).trans (Qb (τ':=[(46,.bool true),(2,.ptr (L,0) 0),(5,.vec (L,1) 1),(7,.int .i64 i),(6,.vec (L,2) (v+1))]) (σ':=[((L,1),.vec 4 1 (s.map V.bool) 1 true),((L,2),.vec 3 1 (stV r) (v+1) true),((L,0),.cells 41 [.slice (t.code.map QM),.slice (t.regs.map encS)])]) (by simp) (by simp[htk2]) (by simp))) ?_;refine QEw ?_;simp;exact hnext _ ⟨f,s,r,v+1⟩ ⟨hq,hsl,hfr,by show f<=3*t.code.length+2;omega⟩ (by simp) twk
   have hd0:decide (i<0)=false:=by simp;omega
   by_cases h1:(t.code.length:Int)<=i
   ·rw[if_pos (.inr (.inl h1))] at hq;have hd1:decide ((t.code.length:Int)<=i)=true:=by simp[h1]
    simp[hsv,hsvl,hrl,w1,h0,h1];refine Qw ((Uf (t:=6) (id:=L) (j:=2) (ver:=v) (z:=1) (el:=3) (len:=r.length) (es:=stV r++[.int .i64 i]) (by simp) (by simp[Qa.get]) (by simp[hsvl])).trans (Qb (τ':=[(46,.bool true),(2,.ptr (L,0) 0),(5,.vec (L,1) 1),(7,.int .i64 i),(6,.vec (L,2) (v+1))]) (σ':=[((L,1),.vec 4 1 (s.map V.bool) 1 true),((L,2),.vec 3 1 (stV r) (v+1) true),((L,0),.cells 41 [.slice (t.code.map QM),.slice (t.regs.map encS)])]) (by simp) (by simp[htk2]) (by simp))) ?_;refine QEw ?_;simp;exact hnext _ ⟨f,s,r,v+1⟩ ⟨hq,hsl,hfr,by show f<=3*t.code.length+2;omega⟩ (by simp) twk
   have hd1:decide ((t.code.length:Int)<=i)=false:=by simp;omega
   have hi0:(0:Int)<=i:=by omega
   have hil:i<(s.length:Int):=by rw[hsl];omega
   have hin:i.toNat<s.length:=by omega
   have hgd:s.getD i.toNat false=s[i.toNat]:=by rw[List.getD_eq_getElem?_getD,List.getElem?_eq_getElem hin]<;>rfl
   rcases hs:s[i.toNat]
   ·have hsn:seenAt s i=false:=by rw[hdl,hgd,hs]
    rw[if_neg (by rintro (h|h|h)<;>first|omega|(rw[hsn] at h;cases h))] at hq;simp[hsv,hsvl,hrl,w1,h0,h1,hi0,hin,hs];refine Qw ((Uf (t:=6) (id:=L) (j:=2) (ver:=v) (z:=1) (el:=3) (len:=r.length) (es:=stV r++[.int .i64 i]) (by simp) (by simp[Qa.get]) (by simp[hsvl])).trans (Qb (τ':=[(46,.bool false),(2,.ptr (L,0) 0),(5,.vec (L,1) 1),(7,.int .i64 i),(6,.vec (L,2) (v+1))]) (σ':=[((L,1),.vec 4 1 (s.map V.bool) 1 true),((L,2),.vec 3 1 (stV r) (v+1) true),((L,0),.cells 41 [.slice (t.code.map QM),.slice (t.regs.map encS)])]) (by simp) (by simp[htk2]) (by simp))) ?_;refine QEw ?_;obtain⟨x,hx⟩:∃ x,t.code[i.toNat]? = some x:=⟨_,List.getElem?_eq_getElem (by omega)⟩
    have hxd:t.code.getD i.toNat default=x:=by rw[List.getD_eq_getElem?_getD,hx]<;>rfl
    rw[hxd] at hq;have hu:=jv hin (by rw[hgd,hs]);have hit:((i.toNat:Nat):Int)=i:=by omega
    obtain⟨kind,reg,base,len,ix,xs,to⟩:=x;have wi:IntKind.i64.wrap (i+1)=i+1:=wrap_i64 (by omega) (by omega);have a1:r.length<=9223372036854775806:=by omega
    have a2:(r.length+1)*8<=140737488355328:=by omega
    have a3:r.length<=9223372036854775805:=by omega
    have a4:(r.length+1+1)*8<=140737488355328:=by omega
    simp[hi0,hin,hx,QM];by_cases k15:kind=15
    ·have b1:(kind == 15)=true:=by simp[k15]
     have b3:(kind != 16)=true:=by simp[k15]
     have hsc:(YX ⟨kind,reg,base,len,ix,xs,to⟩ i.toNat).reverse=[i+1,to]:=by simp[YX,k15,hit]
     simp[b1,b3,wi,hsvl,a1,a2,a3,a4,m4];refine hnext _ ⟨f,s.set i.toNat true,(i+1)::to::r,v+3⟩ ⟨by rw[hq,hsc];rfl,by simpa using hsl,by have:=hu;simp only[List.length_cons];simp at hf;omega,by show f<=3*t.code.length+2;omega⟩ (by simp) (Qb (by simp) (by simp[stV,List.map_set]) (by simp[m4]))
    ·have b1:(kind == 15)=false:=by simp[k15]
     by_cases k16:kind=16
     ·have b2:(kind == 16)=true:=by simp[k16]
      have b3:(kind != 16)=false:=by simp[k16]
      have hsc:(YX ⟨kind,reg,base,len,ix,xs,to⟩ i.toNat).reverse=[to]:=by simp[YX,k16]
      simp[b1,b2,b3,hsvl,a1,a2,m4];refine hnext _ ⟨f,s.set i.toNat true,to::r,v+2⟩ ⟨by rw[hq,hsc];rfl,by simpa using hsl,by have:=hu;simp only[List.length_cons];simp at hf;omega,by show f<=3*t.code.length+2;omega⟩ (by simp) (Qb (by simp) (by simp[stV,List.map_set]) (by simp[m4]))
     ·have b2:(kind == 16)=false:=by simp[k16]
      have b3:(kind != 16)=true:=by simpa using k16
      have hsc:(YX ⟨kind,reg,base,len,ix,xs,to⟩ i.toNat).reverse=[i+1]:=by simp[YX,k15,k16,hit]
      simp[b1,b2,b3,wi,hsvl,a1,a2,m4];refine hnext _ ⟨f,s.set i.toNat true,(i+1)::r,v+2⟩ ⟨by rw[hq,hsc];rfl,by simpa using hsl,by have:=hu;simp only[List.length_cons];simp at hf;omega,by show f<=3*t.code.length+2;omega⟩ (by simp) (Qb (by simp) (by simp[stV,List.map_set]) (by simp[m4]))
   ·have hsn:seenAt s i=true:=by rw[hdl,hgd,hs]
    rw[if_pos (.inr (.inr hsn))] at hq;simp[hsv,hsvl,hrl,w1,h0,h1,hi0,hin,hs];refine Qw ((Uf (t:=6) (id:=L) (j:=2) (ver:=v) (z:=1) (el:=3) (len:=r.length) (es:=stV r++[.int .i64 i]) (by simp) (by simp[Qa.get]) (by simp[hsvl])).trans (Qb (τ':=[(46,.bool true),(2,.ptr (L,0) 0),(5,.vec (L,1) 1),(7,.int .i64 i),(6,.vec (L,2) (v+1))]) (σ':=[((L,1),.vec 4 1 (s.map V.bool) 1 true),((L,2),.vec 3 1 (stV r) (v+1) true),((L,0),.cells 41 [.slice (t.code.map QM),.slice (t.regs.map encS)])]) (by simp) (by simp[htk2]) (by simp))) ?_;refine QEw ?_;simp;exact hnext _ ⟨f,s,r,v+1⟩ ⟨hq,hsl,hfr,by show f<=3*t.code.length+2;omega⟩ (by simp) twk
end Go.Awp.R1
namespace Go.Awp.R3
open Go.Awp.R1 Go Go.Awp Go.Proofs Go.Awp.Sp Go.Awp.B
structure InsOk (x:Ins):Prop where
 base:0<=x.base/\x.base<=1000000
 len:0<=x.len/\x.len<=8
structure PgOk (p:Pg):Prop where
 small:PgSmall p
 code:∀ t∈p.threads,t.code.length<=200
 ins:∀ t∈p.threads,∀ x∈t.code,InsOk x
def XT (x:Ins):List Mk:=if Qz x.kind then (List.range x.len.toNat).map fun (k:Nat)=>(⟨x.base+(k:Int),x.kind != 1&&x.kind != 12⟩:Mk) else []
def VK (p:Pg) (t:Nat) (c:List Ins) (pc:Int):List Mk:=⟨WX p t,true⟩::(Xz c pc).flatMap fun i=>XT (c.getD i default)
noncomputable def TCk (ex:List Nat):Ctx:={ TC with own:=[46],ex:=ex }
@[simp] theorem TCk_P {ex:List Nat}:(TCk ex).P=TC.P:=rfl
@[simp] theorem TCk_own {ex:List Nat}:(TCk ex).own=[46]:=rfl
@[simp] theorem TCk_ex {ex:List Nat}:(TCk ex).ex=ex:=rfl
theorem wQ {c:List Ins} {pc:Int}:(∀ i∈Xz c pc,i<c.length)/\(Xz c pc).length<=c.length:=by
 have h:=(zD c pc).1;unfold Xz trues;refine⟨fun i hi=>?_,?_⟩
 ·have:=(List.mem_filter.1 hi).1;rw[List.mem_range,h] at this;exact this
 ·have:=List.length_filter_le (fun i=>(VG c pc).getD i false) (List.range (VG c pc).length);simpa[h] using this
theorem yT (x:Ins) (h:InsOk x):(XT x).length<=8:=by
 unfold XT;have:=h.len;split
 ·simp;omega
 ·simp
theorem yb {F:Nat->List Mk} {B:Nat}:∀ (l:List Nat),(∀ i∈l,(F i).length<=B)->(l.flatMap F).length<=B*l.length
 | [],_=>by simp
 | i::r,h=>by
   rw[List.flatMap_cons,List.length_append,List.length_cons,Nat.mul_add];have h1:=h i (by simp);have h2:=yb r fun x hx=>h x (by simp[hx]);omega
theorem yc {σ:Qa}:∀ (l:List V),FixL σ l l
 | []=>.nil
 | v::r=>.cons (.refl v) (yc r)
theorem Of_ok (p:Pg) (hp:PgOk p) (t:Nat) (th:Th) (ht:p.threads[t]? = some th) (pc:Int) (hNew:Ql TC 29 [.int .i64 t,.slice ((VK p t th.code pc).map encM)] (encE (newE t (VK p t th.code pc)))):
 Ql TC 13 [Yw p,.int .i64 t,.int .i64 pc] (.slice ((newE t (VK p t th.code pc)).m.map encM)):=by
 have htl:t<p.threads.length:=(gS ht).1;have hte:=(gS ht).2;have htm:=List.mem_of_getElem? ht;have hpt:=hp.small.threads;have hst:=yq p hp.small t ⟨by omega,by omega⟩;have hcl:=hp.code th htm;have hrc:=vM th pc (by omega);refine AFn.ctx (C:=TCk []) (C':=TC) rfl rfl ?_;replace hst:=AFn.ctx (C:=TC) (C':=TCk []) rfl rfl hst;replace hrc:=AFn.ctx (C:=TC) (C':=TCk []) rfl rfl hrc;replace hNew:=AFn.ctx (C:=TC) (C':=TCk []) rfl rfl hNew;rw[Yw] at hst;refine ent Tryz.func13 fun L K hL hR hN hP=>?_;have h0:¬ (t:Int)<0:=by omega
 have h1:¬ (p.threads.length:Int)<=t:=by omega
 simp[Yw,h0,h1];refine Qc hst ?_;have t0:(0:Int)<=t:=by omega
 have t1:(t:Int)<p.threads.length:=by omega
 obtain⟨code,regs⟩:=th;rw[XA] at hrc;simp[t0,htl,hte,XA];refine Qc hrc ?_;obtain⟨hRm,hRl⟩:=wQ (c:=code) (pc:=pc);have hof:VK p t code pc=⟨WX p t,true⟩::(Xz code pc).flatMap fun i=>XT (code.getD i default):=rfl;obtain⟨R,hR0⟩:∃ R,Xz code pc=R:=⟨_,rfl⟩
 rw[hR0] at hRm hRl hof;rw[hR0];have hcl':code.length<=200:=hcl;have hins:=hp.ins _ htm;have hins':∀ x∈code,InsOk x:=hins
 let F:Nat->List Mk:=fun i=>XT (code.getD i default)
 have hF8:∀ i∈R,(F i).length<=8:=fun i hi=>by
  have hil:=hRm i hi;have hx:code.getD i default∈code:=by rw[List.getD_eq_getElem?_getD,List.getElem?_eq_getElem hil];exact List.getElem_mem hil
  exact yT _ (hins' _ hx)
 simp[encNs];refine QB (α:=Nat × List Mk) (fun q=>q.1<=R.length/\q.2=(R.take q.1).flatMap F) (fun q=>[(1,.int .i64 t),(3,.ptr (L,0) 0),(7,.vec (L,1) (1+q.2.length)),(32,.slice (R.map fun (n:Nat)=>V.int .i64 (n:Int))),(33,.int .i64 R.length),(34,.int .i64 (q.1:Int))])
  (fun q=>[((L,1),.vec 49 2 (encM ⟨WX p t,true⟩::q.2.map encM) (1+q.2.length) true),((L,0),.cells 35 [.slice (p.threads.map XA),.slice (p.cells.map Qu),.int .i64 p.mutexes,.slice (p.sems.map fun n=>.int .i64 n),.int .i64 p.budget])]) (fun q=>R.length - q.1) (0,[]) ⟨by simp,by simp⟩ (Qb (by simp) (by simp[encM]) (by simp)) ?_
 rintro⟨k,M⟩ L1 K1 ⟨hk,hM⟩ hL1 - hnext hex hrt - -;obtain⟨hLL,m4,m5⟩:=llu L hL1;have hk:k<=R.length:=hk;have hM:M=(R.take k).flatMap F:=hM;simp;refine Qv.mk (fun hb=>?_) fun hb=>?_
 ·have hkl:k<R.length:=by simp at hb;omega
  have w1:=wr2 k;obtain⟨e1,e2⟩:=il hkl;obtain⟨i,hi⟩:=gE hkl;have hie:=(gS hi).2;have hil:=hRm i (List.mem_of_getElem? hi);obtain⟨x,hx⟩:=gE hil;have hxe:=(gS hx).2;have hxd:code.getD i default=x:=by rw[List.getD_eq_getElem?_getD,hx]<;>rfl
  have hxo:=hins' x (List.mem_of_getElem? hx);have i1:(0:Int)<=(i:Int):=by omega
  have i2:(i:Int)<code.length:=by omega
  have htk:(R.take (k+1)).flatMap F=(R.take k).flatMap F++XT x:=by rw[List.take_succ,hi,List.flatMap_append];show _++([i].flatMap F)=_;rw[List.flatMap_cons,List.flatMap_nil,List.append_nil];show _++XT (code.getD i default)=_;rw[hxd]
  have hml:=yb (F:=F) (B:=8) (R.take k) fun i hi=>hF8 i (List.mem_of_mem_take hi);have htl2:(R.take k).length<=200:=by rw[List.length_take];omega
  rw[<- hM] at hml htk;have hMl:M.length<=1600:=by omega
  have hvis:=AFn.ctx (C:=TC) (C':=TCk []) rfl rfl (Wkq x);obtain⟨kind,reg,base,len,ix,xs,to⟩:=x;rw[QM] at hvis;simp[e1,hkl,hie,i1,hil,hxe,QM,t0,htl,hte,XA];refine Qc hvis ?_;rcases hv:Qz kind
  ·have hmk:XT ⟨kind,reg,base,len,ix,xs,to⟩=[]:=by unfold XT;rw[hv]<;>rfl
   rw[hmk,List.append_nil] at htk;simp[w1];exact hnext _ (k+1,M) ⟨by omega,htk.symm⟩ (by simp;omega) (twk (hn:=by simp[m4]))
  ·have hmk:XT ⟨kind,reg,base,len,ix,xs,to⟩=(List.range len.toNat).map fun (k:Nat)=>(⟨base+(k:Int),kind != 1&&kind != 12⟩:Mk):=by unfold XT;rw[hv]<;>rfl
   simp;obtain⟨lb0,lb1⟩:=hxo.len;obtain⟨bb0,bb1⟩:=hxo.base;simp only at lb0 lb1 bb0 bb1;refine QB (α:=Nat) (fun j=>(j:Int)<=len) (fun j=>[(1,.int .i64 t),(3,.ptr (L,0) 0),(7,.vec (L,1) (1+(M.length+j))),(10,.ptr (L1,0) 0),(32,.slice (R.map fun (n:Nat)=>V.int .i64 (n:Int))),(33,.int .i64 R.length),(34,.int .i64 (k:Int)),(51,.int .i64 len),(52,.int .i64 (j:Int))])
    (fun j=>[((L,1),.vec 49 2 (encM ⟨WX p t,true⟩::(M++(List.range j).map fun (k:Nat)=>(⟨base+(k:Int),kind != 1&&kind != 12⟩:Mk)).map encM) (1+(M.length+j)) true),((L,0),.cells 35 [.slice (p.threads.map XA),.slice (p.cells.map Qu),.int .i64 p.mutexes,.slice (p.sems.map fun n=>.int .i64 n),.int .i64 p.budget]),((L1,0),.cells 63 [.int .i64 kind,.int .i64 reg,.int .i64 base,.int .i64 len,.bool ix,.slice (Qm xs),.int .i64 to])]) (fun j=>len.toNat - j) 0 (by simpa using lb0) (twk (hn:=by simp[m4,m5])) ?_
   rintro j L2 K2 hj hL2 - hnext2 hex2 hrt2 - -;simp;refine Qv.mk (fun hb=>?_) fun hb=>?_
   ·have hjl:(j:Int)<len:=by simpa using hb
    have w2:=wr2 j;have w3:IntKind.i64.wrap (base+(j:Int))=base+(j:Int):=wrap_i64 (by omega) (by omega);have c1:M.length+j+1<=9223372036854775806:=by omega
    have c2:(M.length+j+1+1)*16<=140737488355328:=by omega
    have c3:M.length+j<=9223372036854775805:=by omega
    have hv2:1+(M.length+(j+1))=1+(M.length+j)+1:=by omega
    rcases hk1:(kind != 1)
    all_goals
     simp[hk1,w2,w3,c2,c3,m5];refine hnext2 _ (j+1) (by omega) (by omega) (Qb (by simp[hv2]) (by simp[hv2,List.range_succ,encM,hk1]) (by simp[m5]))
   ·have hjl:(j:Int)=len:=by simp at hb;omega
    have hjn:len.toNat=j:=by omega
    rw[hjn] at hmk;simp;refine hex2 _ _ ?_;simp[w1];refine hnext _ (k+1,M++XT ⟨kind,reg,base,len,ix,xs,to⟩) ⟨by omega,htk.symm⟩ (by simp;omega) (Qb (by simp[hmk]) (by simp[hmk]) (by simp[m5]))
 ·have hkl:k=R.length:=by simp at hb;omega
  subst hkl;have hM2:M=R.flatMap F:=by rw[hM,List.take_length]
  simp;refine hex _ _ ?_;simp;have hl:encM ⟨WX p t,true⟩::M.map encM=(VK p t code pc).map encM:=by rw[hof,hM2]<;>rfl
  refine Qe.sealed [(L,1)] hNew (.cons (.refl _) (.cons (.vec (t:=49) (s:=2) (es:=encM ⟨WX p t,true⟩::M.map encM) (wr:=true) (by simp[Qa.only,Qa.get]) (by rw[hl];exact yc _)) .nil)) (by decide) rfl ?_;simp[encE];exact hR _ (.pure (v:=.slice ((newE t (VK p t code pc)).m.map encM)) (by simp[Qf,Qj]) (.refl _))
def Zy (p:Pg) (s:Int) (x:Ins):Int:=if x.kind=11 then bitI .or .u64 s (IntKind.u64.wrap (2 ^ (min (x.base - WX p 0).toNat IntKind.u64.bits))) else s
def qN (p:Pg) (c:List Ins) (pc:Int):Int:=(Xz c pc).foldl (fun s i=>Zy p s (c.getD i default)) 0
theorem yr (p:Pg) (hp:PgOk p) (t:Nat) (th:Th) (ht:p.threads[t]? = some th) (pc:Int) (hsp:∀ x∈th.code,x.kind=11->WX p 0<=x.base):
 Ql TC 19 [Yw p,.int .i64 t,.int .i64 pc] (.int .u64 (qN p th.code pc)):=by
 have htl:t<p.threads.length:=(gS ht).1;have hte:=(gS ht).2;have htm:=List.mem_of_getElem? ht;have hpt:=hp.small.threads;have hst:=yq p hp.small 0 ⟨by omega,by omega⟩;have hcl:=hp.code th htm;have hrc:=vM th pc (by omega);rw[Yw] at hst;have hs1:=hp.small.cells;have hs2:=hp.small.mutexes;have hs3:=hp.small.sems;have hstb:0<=WX p 0/\WX p 0<=1000000000:=by unfold WX;omega
 refine ent Tryz.func19 fun L K hL hR hN hP=>?_;have h0:¬ (t:Int)<0:=by omega
 have h1:¬ (p.threads.length:Int)<=t:=by omega
 have t0:(0:Int)<=t:=by omega
 have t1:(t:Int)<p.threads.length:=by omega
 obtain⟨code,regs⟩:=th;rw[XA] at hrc;simp[Yw,h0,h1,t0,htl,hte,XA];refine Qc hrc ?_;obtain⟨hRm,hRl⟩:=wQ (c:=code) (pc:=pc);have hof:qN p code pc=(Xz code pc).foldl (fun s i=>Zy p s (code.getD i default)) 0:=rfl;obtain⟨R,hR0⟩:∃ R,Xz code pc=R:=⟨_,rfl⟩
 rw[hR0] at hRm hRl hof;rw[hR0];have hcl':code.length<=200:=hcl;have hins':∀ x∈code,InsOk x:=hp.ins _ htm;have hsp':∀ x∈code,x.kind=11->WX p 0<=x.base:=hsp;simp[encNs];refine QB (α:=Nat × Int) (fun q=>q.1<=R.length/\qN p code pc=(R.drop q.1).foldl (fun s i=>Zy p s (code.getD i default)) q.2) (fun q=>[(1,.int .i64 t),(3,.ptr (L,0) 0),(7,.int .u64 q.2),(26,.slice (R.map fun (n:Nat)=>V.int .i64 (n:Int))),(27,.int .i64 R.length),(28,.int .i64 (q.1:Int))])
  (fun q=>[((L,0),.cells 35 [.slice (p.threads.map XA),.slice (p.cells.map Qu),.int .i64 p.mutexes,.slice (p.sems.map fun n=>.int .i64 n),.int .i64 p.budget])]) (fun q=>R.length - q.1) (0,0) ⟨by simp,by simpa using hof⟩ twk ?_
 rintro⟨k,s⟩ L1 K1 ⟨hk,hs⟩ hL1 - hnext hex hrt - -;obtain⟨hLL,m4,m5⟩:=llu L hL1;have hk:k<=R.length:=hk;simp only at hs;simp;refine Qv.mk (fun hb=>?_) fun hb=>?_
 ·have hkl:k<R.length:=by simp at hb;omega
  have w1:=wr2 k;obtain⟨e1,e2⟩:=il hkl;obtain⟨i,hi⟩:=gE hkl;have hie:=(gS hi).2;have hil:=hRm i (List.mem_of_getElem? hi);obtain⟨x,hx⟩:=gE hil;have hxe:=(gS hx).2;have hxd:code.getD i default=x:=by rw[List.getD_eq_getElem?_getD,hx]<;>rfl
  have hxo:=hins' x (List.mem_of_getElem? hx);have hxs:=hsp' x (List.mem_of_getElem? hx);have i1:(0:Int)<=(i:Int):=by omega
  have i2:(i:Int)<code.length:=by omega
  rw[List.drop_eq_getElem_cons hkl,hie,List.foldl_cons,hxd] at hs;obtain⟨kind,reg,base,len,ix,xs,to⟩:=x;simp[e1,hkl,hie,i1,hil,hxe,QM,t0,htl,hte,XA];by_cases h11:kind=11
  ·have hb11:(kind == 11)=true:=by simp[h11]
   have hbs:=hxs h11;simp only at hbs;obtain⟨bb0,bb1⟩:=hxo.base;simp only at bb0 bb1;have hss:Zy p s ⟨kind,reg,base,len,ix,xs,to⟩=bitI .or .u64 s (IntKind.u64.wrap (2 ^ (min (base - WX p 0).toNat IntKind.u64.bits))):=by unfold Zy;rw[if_pos h11]
   rw[hss] at hs;have w3:IntKind.i64.wrap (base - WX p 0)=base - WX p 0:=wrap_i64 (by omega) (by omega);have p0:0<=base - WX p 0:=by omega
   simp[hb11,m4];refine Qc hst ?_;simp[w3,hbs,w1];exact hnext _ (k+1,bitI .or .u64 s (IntKind.u64.wrap (2 ^ (min (base - WX p 0).toNat IntKind.u64.bits)))) ⟨by omega,hs⟩ (by simp;omega) (twk (hn:=by simp[m4]))
  ·have hb11:(kind == 11)=false:=by simp[h11]
   have hss:Zy p s ⟨kind,reg,base,len,ix,xs,to⟩=s:=by unfold Zy;rw[if_neg h11]
   rw[hss] at hs;simp[hb11,w1];exact hnext _ (k+1,s) ⟨by omega,hs⟩ (by simp;omega) (twk (hn:=by simp[m4]))
 ·have hkl:k=R.length:=by simp at hb;omega
  subst hkl;rw[List.drop_length,List.foldl_nil] at hs;simp;refine hex _ _ ?_;simp;exact hR _ (.pure (v:=.int .u64 s) (by simp[Qf,Qj]) (by rw[hs];exact .refl _))
def text14:Bs:=[99,101,108,108,32,120,32,48,59,32,116,104,114,101,97,100,32,116,32,123,32,125,32,116,104,114,101,97,100,32,117,32,123,32,115,116,111,114,101,32,120,44,32,49,59,32,115,112,97,119,110,32,116,59,32,125]
def p14:Pg:=⟨[⟨[],[]⟩,⟨[⟨2,-1,0,1,false,[.mk [] ⟨1,0⟩ [] []],0⟩,⟨11,-1,1,1,false,[],0⟩],[]⟩],[⟨0,0⟩],0,[],100⟩
theorem read14:Jb text14 = .ok p14:=by kernel_rfl
theorem QVz:PgOk p14:=⟨⟨by decide,by decide,by decide,by decide⟩,by decide,fun t ht=>by
 simp[p14] at ht;rcases ht with rfl|rfl
 ·intro x hx;cases hx
 ·intro x hx;simp at hx;rcases hx with rfl|rfl
  ·exact⟨by decide,by decide⟩
  ·exact⟨by decide,by decide⟩⟩
theorem Wnq:Ql TC 7 [] (.bool true):=by
 have h1:=Read_ok text14 (by decide);rw[read14,VF] at h1;have h2:=Of_ok p14 QVz 0 ⟨[],[]⟩ rfl 0 (VZ _ _ (Nat.le_of_ble_eq_true (by kernel_rfl)));have e2:(newE ((0:Nat):Int) (VK p14 0 [] 0)).m=[⟨1,true⟩]:=by kernel_rfl
 simp only at h2;rw[e2] at h2;have hs:∀ x∈(⟨[⟨2,-1,0,1,false,[.mk [] ⟨1,0⟩ [] []],0⟩,⟨11,-1,1,1,false,[],0⟩],[]⟩:Th).code,x.kind=11->WX p14 0<=x.base:=fun x hx=>by
  simp at hx;rcases hx with rfl|rfl
  ·intro h;exact absurd h (by decide)
  ·intro _;decide
 have h3:=yr p14 QVz 1 _ rfl 0 hs;have h4:=yr p14 QVz 1 _ rfl 9 hs;have e3:qN p14 [⟨2,-1,0,1,false,[.mk [] ⟨1,0⟩ [] []],0⟩,⟨11,-1,1,1,false,[],0⟩] 0=1:=by kernel_rfl
 have e4:qN p14 [⟨2,-1,0,1,false,[.mk [] ⟨1,0⟩ [] []],0⟩,⟨11,-1,1,1,false,[],0⟩] 9=0:=by kernel_rfl
 simp only at h3 h4;rw[e3] at h3;rw[e4] at h4;have hz:=jn;rw[Yw] at h1 h2 h3 h4;generalize V.slice (p14.threads.map XA)=A at h1 h2 h3 h4;generalize V.slice (p14.cells.map Qu)=B at h1 h2 h3 h4;generalize V.int .i64 p14.mutexes=C at h1 h2 h3 h4;generalize V.slice (p14.sems.map fun n=>V.int .i64 n)=D at h1 h2 h3 h4;generalize V.int .i64 p14.budget=E at h1 h2 h3 h4;refine ent Tryz.func7 fun L K hL hR hN hP=>?_;simp;refine Qc h1 ?_;simp[hz];refine Qc h2 ?_;simp[encM];refine Qc h3 ?_;simp;refine Qc h4 ?_;simp;refine Qc Wnw ?_;simp;exact hR _ (.pure rfl (.refl _))
structure Rng (x:Sm):Prop where
 cells:0<=x.cells/\x.cells<256
 array:0<=x.array/\x.array<256
 mutexes:0<=x.mutexes/\x.mutexes<256
 sems:0<=x.sems/\x.sems<256
 budget:0<=x.budget/\x.budget<256
 n:-128<=x.n/\x.n<128
 threads:∀ l∈x.threads,∀ s∈l,s.Ok
theorem Rng.ok {x:Sm} (h:Rng x) (hl:JV x=true):x.Ok:=by
 unfold JV at hl;simp only[Bool.and_eq_true,decide_eq_true_eq,List.all_eq_true] at hl;exact⟨h.cells,h.array,h.mutexes,h.sems,h.budget,h.n,h.threads,hl.1,hl.2⟩
mutual
theorem insS_goto (ts:Qp) (regs:List Bs):∀ (s:St) (p:Nat),∀ x∈insS ts regs p s,0<=x.Jc
 | .mk k reg name ix xs body els pl,p=>by
   by_cases h:k<15
   ·rw[insS,if_pos h];intro x hx;simp -implicitDefEqProofs at hx;subst hx;show (0:Int)<=0;decide
   ·rw[yS h];have h1:=UU ts regs body (p+1);have h2:=fun q=>UU ts regs els q;simp only;split
    ·intro x hx;rcases List.mem_cons.1 hx with rfl|hx
     ·show (0:Int)<=((_:Nat):Int);omega
     ·rcases List.mem_append.1 hx with hx|hx
      ·exact h1 x hx
      ·rw[List.mem_singleton] at hx;subst hx;show (0:Int)<=((p:Nat):Int);omega
    ·split
     ·intro x hx;rcases List.mem_cons.1 hx with rfl|hx
      ·show (0:Int)<=((_:Nat):Int);omega
      ·exact h1 x hx
     ·intro x hx;rcases List.mem_cons.1 hx with rfl|hx
      ·show (0:Int)<=((_:Nat):Int);omega
      ·rcases List.mem_append.1 hx with hx|hx
       ·rcases List.mem_append.1 hx with hx|hx
        ·exact h1 x hx
        ·rw[List.mem_singleton] at hx;subst hx;show (0:Int)<=((_:Nat):Int);omega
       ·exact h2 _ x hx
theorem UU (ts:Qp) (regs:List Bs):∀ (l:List St) (p:Nat),∀ x∈insL ts regs p l,0<=x.Jc
 | [],p=>by rw[insL];intro x hx;cases hx
 | s::r,p=>by
   rw[insL];intro x hx;rcases List.mem_append.1 hx with hx|hx
   ·exact insS_goto ts regs s p x hx
   ·exact UU ts regs r _ x hx
end
theorem Qvz {ts:Qp} {rs:List (List Bs)}:∀ (ds:List Dc) (p q:Pg),XO ts rs p ds=some q->∀ th∈q.threads,th∈p.threads∨∃ (d:Dc) (regs:List Bs),d∈ds/\d.sort=5/\th.code=insL ts regs 0 d.body/\th.code.length<=200
 | [],p,q,h=>by rw[XO] at h;cases h;exact fun th h=>.inl h
 | d::r,p,q,h=>by
   rw[XO] at h;have lift:∀ (p':Pg),XO ts rs p' r=some q->(∀ th∈p'.threads,th∈p.threads∨∃ (d':Dc) (regs:List Bs),d'∈d::r/\d'.sort=5/\th.code=insL ts regs 0 d'.body/\th.code.length<=200)->
    ∀ th∈q.threads,th∈p.threads∨∃ (d':Dc) (regs:List Bs),d'∈d::r/\d'.sort=5/\th.code=insL ts regs 0 d'.body/\th.code.length<=200:=fun p' h1 h2 th hth=>by
    rcases Qvz r p' q h1 th hth with h3|⟨d',regs,h3,h4⟩
    ·exact h2 th h3
    ·exact .inr ⟨d',regs,List.mem_cons_of_mem _ h3,h4⟩
   split at h
   ·exact lift _ h fun th hth=>.inl hth
   ·split at h
    ·exact lift _ h fun th hth=>.inl hth
    ·split at h
     ·exact lift _ h fun th hth=>.inl hth
     ·split at h
      ·exact lift _ h fun th hth=>.inl hth
      ·split at h
       ·rename_i h5;simp only at h;split at h
        ·cases h
        ·rename_i hlen;refine lift _ h fun th hth=>?_;simp only[List.mem_append,List.mem_singleton] at hth;rcases hth with hth|rfl
         ·exact .inl hth
         ·exact .inr ⟨d,_,List.mem_cons_self,h5,rfl,by simp only;omega⟩
       ·exact lift _ h fun th hth=>.inl hth
theorem makeS_th {t:Sp.Table} {ds:List Dc} {p:Pg} (h:zI t ds=some p):∀ th∈p.threads,th.code.length<=200/\∀ x∈th.code,0<=x.Jc:=fun th hth=>by
 rcases Qvz _ _ _ h th hth with h1|⟨d,regs,_,_,h2,h3⟩
 ·cases h1
 ·exact⟨h3,by rw[h2];exact UU _ _ _ _⟩
theorem ZB {ts:Qp} {rs:List (List Bs)} (hl:∀ s,0<=lenOf ts s/\lenOf ts s<=8):∀ (ds:List Dc) (p q:Pg),XO ts rs p ds=some q->q.threads.length<=p.threads.length+ds.length/\q.sems.length<=p.sems.length+ds.length/\p.mutexes<=q.mutexes/\q.mutexes<=p.mutexes+ds.length/\q.cells.length<=p.cells.length+8*ds.length
 | [],p,q,h=>by rw[XO] at h;cases h;simp -implicitDefEqProofs
 | d::r,p,q,h=>by
   rw[XO] at h;rw[List.length_cons];split at h
   ·have:=ZB hl r _ q h;simp -implicitDefEqProofs at this;omega
   ·split at h
    ·have h1:=ZB hl r _ q h;have h2:=hl d.name;simp -implicitDefEqProofs at h1;omega
    ·split at h
     ·have:=ZB hl r _ q h;simp -implicitDefEqProofs at this;omega
     ·split at h
      ·have:=ZB hl r _ q h;simp -implicitDefEqProofs at this;omega
      ·split at h
       ·simp only at h;split at h
        ·cases h
        ·have:=ZB hl r _ q h;simp -implicitDefEqProofs at this;omega
       ·have:=ZB hl r _ q h;omega
end Go.Awp.R3
