/- The instructions that may come: the statements' own way. -/
import Derived.Test.YtnielafbkgpgjaaGreatDoorX39
set_option linter.all false
set_option maxRecDepth 100000
set_option maxHeartbeats 8000000
namespace Go.Awp.R1
open Go Go.Awp Go.Proofs Go.Awp.Sp
def bitV (b:Bool):V:=.int .i64 (if b then 1 else 0)
theorem setBit (m:List Bool) (k:Nat):(m.map bitV).set k (.int .i64 1)=(m.set k true).map bitV:=by rw[List.map_set]<;>rfl
theorem marks_len (c:List Ins) (l:List Nat) (m:List Bool):(l.foldl (YU c) m).length=m.length:=(jR c l m).1.symm
theorem put1s_len (n:Nat) (l:List Int) (m:List Bool):(l.foldl (put1 n) m).length=m.length:=(yK n l m).1.symm
abbrev exR:List Nat:=[1000024,1000049,1000057]
theorem LReach_ok (c:List Ins) (pc:Int) (hc:c.length<=100000) (hT:∀ x∈c,0<=x.Jc):Ql TC 12 [.slice (c.map QM),.int .i64 pc] (encNs (trues (qk c pc))):=by
 refine AFn.ctx (C:=TCn exR) (C':=TC) rfl rfl ?_;refine ent Tryz.func12 fun L K hL hR hN hP=>?_;have c1:(c.length:Int)<=9223372036854775807:=by omega
 have c2:c.length*8<=140737488355328:=by omega
 obtain⟨m0,hm0⟩:∃ m0,m0=if 0<=pc/\pc<c.length then (List.replicate c.length false).set pc.toNat true else List.replicate c.length false:=⟨_,rfl⟩
 have hmm:qk c pc=passes c c.length m0:=by rw[hm0]<;>rfl
 have hml:m0.length=c.length:=by rw[hm0];split<;>simp
 have hrep:(List.replicate c.length (V.int .i64 0))=(List.replicate c.length false).map bitV:=by rw[List.map_replicate]<;>rfl
 obtain⟨b,hb⟩:∃ b,b=decide (0<=pc/\pc<(c.length:Int)):=⟨_,rfl⟩
 apply QZq (Classical.em (0<=pc))
 case ha=>
  intro hp0 hG;have hbb:b=decide (pc<(c.length:Int)):=by rw[hb];simp[hp0]
  simp[c1,c2,hp0];refine Qw (Qb (τ':=[(0,.slice (c.map QM)),(1,.int .i64 pc),(5,.vec (L,0) 1),(24,.bool b)]) (σ':=[((L,0),.vec 3 1 ((List.replicate c.length false).map bitV) 1 true)]) (by simp[hbb]) (by simp[hrep]) (by simp)) ?_;exact hG.it
 case hb=>
  intro hp0 hG;have hbb:b=false:=by rw[hb];simp[hp0]
  simp[c1,c2,hp0];refine Qw (Qb (τ':=[(0,.slice (c.map QM)),(1,.int .i64 pc),(5,.vec (L,0) 1),(24,.bool b)]) (σ':=[((L,0),.vec 3 1 ((List.replicate c.length false).map bitV) 1 true)]) (by simp[hbb]) (by simp[hrep]) (by simp)) ?_;exact hG.it
 case hm=>
  refine Yh (α:=Unit) (fun _=>True) (fun _=>[(0,.slice (c.map QM)),(5,.vec (L,0) 1)]) (fun _=>[((L,0),.vec 3 1 (m0.map bitV) 1 true)]) 1 ?_ ?_
  ·intro K3 hnext3 hex3 hrt3 hgo3 hpn3;cases b with
   | false=>
     have hc0:¬ (0<=pc/\pc<(c.length:Int)):=by simpa using hb.symm
     rw[if_neg hc0] at hm0;simp;exact hnext3 _ () trivial (Qi (by simp) (by simp) (by simp[hm0]) (by simp))
   | true=>
     have hc0:0<=pc/\pc<(c.length:Int):=by simpa using hb.symm
     rw[if_pos hc0] at hm0;have h1:=hc0.1;have h2:=hc0.2;simp[h1,h2,bitV];have hz:(List.replicate c.length (V.int .i64 0)).set pc.toNat (V.int .i64 1)=m0.map bitV:=by rw[hm0,<- setBit,<- hrep]
     have hz2:(List.replicate c.length (bitV false)).set pc.toNat (V.int .i64 1)=m0.map bitV:=hz;exact hnext3 _ () trivial (Qi (by simp) (by simp) (by simp[hz]) (by simp))
  ·rintro⟨⟩ -;simp;refine QB (α:=Nat × List Bool) (fun q=>q.1<=c.length/\qk c pc=passes c (c.length - q.1) q.2/\q.2.length=c.length) (fun q=>[(0,.slice (c.map QM)),(5,.vec (L,0) 1),(29,.int .i64 c.length),(30,.int .i64 (q.1:Int))]) (fun q=>[((L,0),.vec 3 1 (q.2.map bitV) 1 true)])
    (fun q=>c.length - q.1) (0,m0) ⟨by simp,by simpa using hmm,hml⟩ twk ?_
   rintro⟨p,m⟩ L1 K1 ⟨hp,hmk,hmle⟩ hL1 - hnext hex hrt - -;obtain⟨hLL,m4,m5⟩:=llu L hL1;simp at hp hmk hmle;simp;refine Qv.mk (fun hb=>?_) fun hb=>?_
   ·have hpl:p<c.length:=by simp at hb;omega
    have w1:=wr2 p;have hmk2:qk c pc=passes c (c.length - (p+1)) (pass c m):=by
     rw[hmk,show c.length - p=(c.length - (p+1))+1 by omega,passes]
    simp;refine QB (α:=Nat) (fun i=>i<=c.length) (fun i=>[(0,.slice (c.map QM)),(5,.vec (L,0) 1),(29,.int .i64 c.length),(30,.int .i64 (p:Int)),(32,.slice (c.map QM)),(33,.int .i64 c.length),(34,.int .i64 (i:Int))]) (fun i=>[((L,0),.vec 3 1 (((List.range i).foldl (YU c) m).map bitV) 1 true)])
     (fun i=>c.length - i) 0 (by simp) twk ?_
    rintro i L2 K2 hi hL2 - hnext2 hex2 hrt2 - -;have hLL2:L1<L2:=hL2;have m6:¬ L2=L:=by omega
    have m7:¬ L=L2:=by omega
    obtain⟨mi,hmi⟩:∃ mi,(List.range i).foldl (YU c) m=mi:=⟨_,rfl⟩
    have hmil:mi.length=c.length:=by rw[<- hmi,marks_len,hmle]
    have hr1:(List.range (i+1)).foldl (YU c) m=YU c mi i:=by rw[List.range_succ,List.foldl_append,hmi]<;>rfl
    rw[hmi];simp;refine Qv.mk (fun hb=>?_) fun hb=>?_
    ·have hil:i<c.length:=by simp at hb;omega
     have w2:=wr2 i;have e1:(0:Int)<=(i:Int):=by omega
     have e2:(i:Int)<c.length:=by omega
     have e3:i<mi.length:=by omega
     have e4:(i:Int)<mi.length:=by omega
     obtain⟨x,hx⟩:=gE hil;have hxd:c.getD i default=x:=by rw[List.getD_eq_getElem?_getD,hx]<;>rfl
     have hTx:=hT x (List.mem_of_getElem? hx);have hxe:=(gS hx).2;have hgd:mi.getD i false=mi[i]:=by rw[List.getD_eq_getElem?_getD,List.getElem?_eq_getElem e3]<;>rfl
     obtain⟨kind,reg,base,len,ix,xs,to⟩:=x;rcases hs:mi[i]
     ·have hmk1:YU c mi i=mi:=by unfold YU;rw[hgd,hs]<;>rfl
      simp[e1,hil,hxe,QM,e3,hs,bitV,w2,m6];exact hnext2 _ (i+1) (by omega) (by omega) (Qb (by simp) (by simp[hr1,hmk1]) (by simp[m6]))
     ·have hmk1:YU c mi i=(qj ⟨kind,reg,base,len,ix,xs,to⟩ i).foldl (put1 c.length) mi:=by unfold YU;rw[hgd,hs,hxd]<;>rfl
      simp[e1,hil,hxe,QM,e3,hs,bitV,w2,m6];have hbv:(fun b=>V.int .i64 (if b then 1 else 0))=bitV:=rfl;refine Yh (α:=Nat × List Int) (fun q=>q.2=if kind=15 then [(i:Int)+1,to] else [(i:Int)+1]) (fun q=>[(0,.slice (c.map QM)),(5,.vec (L,0) 1),(29,.int .i64 c.length),(30,.int .i64 (p:Int)),(32,.slice (c.map QM)),(33,.int .i64 c.length),(34,.int .i64 (i:Int)),(7,.ptr (L2,0) 0),(8,.vec (L2,1) q.1)]) (fun q=>[((L2,1),.vec 3 1 (q.2.map (V.int .i64)) q.1 true),((L2,0),.cells 63 [.int .i64 kind,.int .i64 reg,.int .i64 base,.int .i64 len,.bool ix,.slice (Qm xs),.int .i64 to]),((L,0),.vec 3 1 (mi.map bitV) 1 true)]) 3 ?_ ?_
      ·intro K4 hnext4 hex4 hrt4 hgo4 hpn4;by_cases k15:kind=15
       ·have b1:(kind == 15)=true:=by simp[k15]
        simp[b1];exact hnext4 _ (2,[(i:Int)+1,to]) (by rw[if_pos k15]) (Qi (by simp) (by simp) (by simp) (by simp[m6]))
       ·have b1:(kind == 15)=false:=by simp[k15]
        simp[b1];exact hnext4 _ (1,[(i:Int)+1]) (by rw[if_neg k15]) (Qi (by simp) (by simp) (by simp) (by simp[m6]))
      ·rintro⟨v1,l1⟩ hl1;simp at hl1;simp;refine Yh (α:=Nat × Nat × List Int) (fun q=>q.2.2=qj ⟨kind,reg,base,len,ix,xs,to⟩ i/\q.1≠0) (fun q=>[(0,.slice (c.map QM)),(5,.vec (L,0) 1),(29,.int .i64 c.length),(30,.int .i64 (p:Int)),(32,.slice (c.map QM)),(33,.int .i64 c.length),(34,.int .i64 (i:Int)),(8,.vec (L2,q.1) q.2.1)]) (fun q=>[((L2,q.1),.vec 3 1 (q.2.2.map (V.int .i64)) q.2.1 true),((L,0),.vec 3 1 (mi.map bitV) 1 true)]) 5 ?_ ?_
       ·intro K4 hnext4 hex4 hrt4 hgo4 hpn4;by_cases k16:kind=16
        ·have b1:(kind == 16)=true:=by simp[k16]
         simp[b1];exact hnext4 _ (3,1,[to]) ⟨by simp[qj,k16],(by decide:(3:Nat)≠0)⟩ (Qi (by simp) (by simp) (by simp) (by simp[m6]))
        ·have b1:(kind == 16)=false:=by simp[k16]
         simp[b1];refine hnext4 _ (1,v1,l1) ⟨?_,(by decide:(1:Nat)≠0)⟩ (Qi (by simp) (by simp) (by simp) (by simp[m6]));rw[hl1];simp[qj,k16]
       ·rintro⟨g,v2,l2⟩ ⟨hl2,hg0⟩;simp at hl2 hg0;have hl2n:l2.length<=2:=by rw[hl2];unfold qj;split<;>(try split)<;>simp
        have hpos:∀ k∈l2,0<=k:=fun k hk=>by
         rw[hl2,UO] at hk;unfold YX at hk;simp only[List.mem_append] at hk;rcases hk with hk|hk
         ·split at hk
          ·rw[List.mem_singleton] at hk;rw[hk];exact hTx
          ·cases hk
         ·split at hk
          ·rw[List.mem_singleton] at hk;omega
          ·cases hk
        simp;refine QB (α:=Nat) (fun k=>k<=l2.length) (fun k=>[(0,.slice (c.map QM)),(5,.vec (L,0) 1),(29,.int .i64 c.length),(30,.int .i64 (p:Int)),(32,.slice (c.map QM)),(33,.int .i64 c.length),(34,.int .i64 (i:Int)),(61,.vec (L2,g) v2),(62,.int .i64 l2.length),(63,.int .i64 (k:Int))]) (fun k=>[((L2,g),.vec 3 1 (l2.map (V.int .i64)) v2 true),((L,0),.vec 3 1 (((l2.take k).foldl (put1 c.length) mi).map bitV) 1 true)]) (fun k=>l2.length - k) 0 (by simp) (twk (hn:=by simp[m6])) ?_;rintro k L3 K3 hk hL3 - hnext3 hex3 hrt3 - -;obtain⟨mk,hmk3⟩:∃ mk,(l2.take k).foldl (put1 c.length) mi=mk:=⟨_,rfl⟩
        have hmkl:mk.length=c.length:=by rw[<- hmk3,put1s_len,hmil]
        rw[hmk3];simp;refine Qv.mk (fun hb=>?_) fun hb=>?_
        ·have hkl:k<l2.length:=by simp at hb;omega
         have w3:=wr2 k;have f1:(0:Int)<=(k:Int):=by omega
         have f2:(k:Int)<l2.length:=by omega
         obtain⟨y,hy⟩:=gE hkl;have hye:=(gS hy).2;have hy0:=hpos y (List.mem_of_getElem? hy);have htk:(l2.take (k+1)).foldl (put1 c.length) mi=put1 c.length mk y:=by rw[List.take_succ,hy];simp[List.foldl_append,hmk3]
         simp[f1,hkl,hye];by_cases hlt:y<(c.length:Int)
         ·have hpt:put1 c.length mk y=mk.set y.toNat true:=by unfold put1;rw[if_pos hlt]
          have g1:y.toNat<mk.length:=by omega
          have g2:y<(mk.length:Int):=by omega
          obtain⟨z,hz⟩:∃ z,bitV mk[y.toNat]=V.int .i64 z:=⟨_,rfl⟩
          simp[hlt,hy0,g1,hz,w3,m6];exact hnext3 _ (k+1) (by omega) (by omega) (Qb (by simp) (by simp[htk,hpt,setBit]) (by simp[m6]))
         ·have hpt:put1 c.length mk y=mk:=by unfold put1;rw[if_neg hlt]
          simp[hlt,w3];exact hnext3 _ (k+1) (by omega) (by omega) (Qb (by simp) (by simp[htk,hpt]) (by simp[m6]))
        ·have hkl:k=l2.length:=by simp at hb;omega
         subst hkl;rw[List.take_length] at hmk3;simp;refine hex3 _ _ ?_;simp[w2];exact hnext2 _ (i+1) (by omega) (by omega) (Qb (by simp) (by simp[hr1,hmk1,<- hl2,hmk3]) (by simp[m6]))
    ·have hil:i=c.length:=by simp at hb;omega
     subst hil;simp;refine hex2 _ _ ?_;simp[w1];refine hnext _ (p+1,mi) ⟨by omega,?_,hmil⟩ (by simp;omega) twk;rw[hmk2,pass,hmi]
   ·have hpl:p=c.length:=by simp at hb;omega
    subst hpl;rw[Nat.sub_self,passes] at hmk;simp;refine hex _ _ ?_;simp;have hml:m.length=c.length:=hmle;refine Qw (WM (t:=11) (el:=3) (sz:=1) (by simp) (by decide)) ?_;refine QB (α:=Nat) (fun k=>k<=m.length) (fun k=>[(11,.vec (L,1) ((List.range k).filter fun i=>m.getD i false).length),(77,.vec (L,0) 1),(78,.int .i64 m.length),(79,.int .i64 (k:Int))])
     (fun k=>[((L,1),.vec 3 1 (((List.range k).filter fun i=>m.getD i false).map fun (n:Nat)=>V.int .i64 (n:Int)) ((List.range k).filter fun i=>m.getD i false).length true),((L,0),.vec 3 1 (m.map bitV) 1 true)])
     (fun k=>m.length - k) 0 (by simp) twk ?_
    rintro k L2 K2 hk hL2 - hnext2 hex2 hrt2 - -;obtain⟨out,hout⟩:∃ out,(List.range k).filter (fun i=>m.getD i false)=out:=⟨_,rfl⟩
    have hol:out.length<=k:=by
     rw[<- hout];have:=List.length_filter_le (fun i=>m.getD i false) (List.range k);simpa using this
    have hr1:(List.range (k+1)).filter (fun i=>m.getD i false)=out++(if m.getD k false=true then [k] else []):=by
     rw[List.range_succ,List.filter_append,hout];congr 1;cases hg:m.getD k false with
     | false=>rw[List.filter_cons,if_neg (by rw[hg];decide)]<;>rfl
     | true=>rw[List.filter_cons,if_pos hg]<;>rfl
    rw[hout];simp;refine Qv.mk (fun hb=>?_) fun hb=>?_
    ·have hkl:k<m.length:=by simp at hb;omega
     have w1:=wr2 k;have e1:(0:Int)<=(k:Int):=by omega
     have e2:(k:Int)<m.length:=by omega
     have hgd:m.getD k false=m[k]:=by rw[List.getD_eq_getElem?_getD,List.getElem?_eq_getElem hkl]<;>rfl
     rw[hgd] at hr1;rcases hs:m[k]
     ·rw[hs] at hr1;simp at hr1;have hbv:bitV false=V.int .i64 0:=rfl;simp[e1,hkl,hs,hbv,w1];refine hnext2 _ (k+1) (by omega) (by omega) (Qb (by simp[hr1]) (by simp[hr1]) (by simp))
     ·rw[hs] at hr1;simp at hr1;have hbv:bitV true=V.int .i64 1:=rfl;have b1:out.length<=9223372036854775806:=by omega
      have b2:(out.length+1)*8<=140737488355328:=by omega
      simp[e1,hkl,hs,hbv,w1,b1,b2];refine hnext2 _ (k+1) (by omega) (by omega) (Qb (by simp[hr1]) (by simp[hr1]) (by simp))
    ·have hkl:k=m.length:=by simp at hb;omega
     subst hkl;simp;refine hex2 _ _ ?_;simp;refine hR _ (.pure (v:=.vec (L,1) out.length) (by simp[Qf,Qj]) ?_);rw[hmk,trues,hout];exact .vec (t:=3) (s:=1) (es:=out.map fun (n:Nat)=>V.int .i64 (n:Int)) (wr:=true) (by simp[Qa.get]) (Qn _)
end Go.Awp.R1
