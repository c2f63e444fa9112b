/- P14.1: the instructions that may come. -/
import Derived.Test.YtnielafbkgpgjaaGreatDoorX40
import Derived.Test.YtnielafbkgpgjaaGreatDoorX37
set_option linter.all false
set_option maxRecDepth 100000
set_option maxHeartbeats 8000000
namespace Go.Awp.R3
open Go.Awp.R1 Go Go.Awp Go.Proofs Go.Awp.Sp Go.Awp.B
structure Rng (x:Sm):Prop where
 cells:0<=x.cells/\x.cells<256
 array:0<=x.array/\x.array<256
 mutexes:0<=x.mutexes/\x.mutexes<256
 sems:0<=x.sems/\x.sems<256
 budget:0<=x.budget/\x.budget<256
 n:-128<=x.n/\x.n<128
 threads:∀ l∈x.threads,∀ s∈l,s.Ok
theorem Rng.ok {x:Sm} (h:Rng x) (hl:JV x=true):x.Ok:=by
 unfold JV at hl;simp only[Bool.and_eq_true,decide_eq_true_eq,List.all_eq_true] at hl;exact⟨h.cells,h.array,h.mutexes,h.sems,h.budget,h.n,h.threads,hl.1,hl.2⟩
mutual
theorem insS_goto (ts:Qp) (regs:List Bs):∀ (s:St) (p:Nat),∀ x∈insS ts regs p s,0<=x.Jc
 | .mk k reg name ix xs body els pl,p=>by
   by_cases h:k<15
   ·rw[insS,if_pos h];intro x hx;simp -implicitDefEqProofs at hx;subst hx;show (0:Int)<=0;decide
   ·rw[yS h];have h1:=UU ts regs body (p+1);have h2:=fun q=>UU ts regs els q;simp only;split
    ·intro x hx;rcases List.mem_cons.1 hx with rfl|hx
     ·show (0:Int)<=((_:Nat):Int);omega
     ·rcases List.mem_append.1 hx with hx|hx
      ·exact h1 x hx
      ·rw[List.mem_singleton] at hx;subst hx;show (0:Int)<=((p:Nat):Int);omega
    ·split
     ·intro x hx;rcases List.mem_cons.1 hx with rfl|hx
      ·show (0:Int)<=((_:Nat):Int);omega
      ·exact h1 x hx
     ·intro x hx;rcases List.mem_cons.1 hx with rfl|hx
      ·show (0:Int)<=((_:Nat):Int);omega
      ·rcases List.mem_append.1 hx with hx|hx
       ·rcases List.mem_append.1 hx with hx|hx
        ·exact h1 x hx
        ·rw[List.mem_singleton] at hx;subst hx;show (0:Int)<=((_:Nat):Int);omega
       ·exact h2 _ x hx
theorem UU (ts:Qp) (regs:List Bs):∀ (l:List St) (p:Nat),∀ x∈insL ts regs p l,0<=x.Jc
 | [],p=>by rw[insL];intro x hx;cases hx
 | s::r,p=>by
   rw[insL];intro x hx;rcases List.mem_append.1 hx with hx|hx
   ·exact insS_goto ts regs s p x hx
   ·exact UU ts regs r _ x hx
end
theorem Qvz {ts:Qp} {rs:List (List Bs)}:∀ (ds:List Dc) (p q:Pg),XO ts rs p ds=some q->∀ th∈q.threads,th∈p.threads∨∃ (d:Dc) (regs:List Bs),d∈ds/\d.sort=5/\th.code=insL ts regs 0 d.body/\th.code.length<=200
 | [],p,q,h=>by rw[XO] at h;cases h;exact fun th h=>.inl h
 | d::r,p,q,h=>by
   rw[XO] at h;have lift:∀ (p':Pg),XO ts rs p' r=some q->(∀ th∈p'.threads,th∈p.threads∨∃ (d':Dc) (regs:List Bs),d'∈d::r/\d'.sort=5/\th.code=insL ts regs 0 d'.body/\th.code.length<=200)->
    ∀ th∈q.threads,th∈p.threads∨∃ (d':Dc) (regs:List Bs),d'∈d::r/\d'.sort=5/\th.code=insL ts regs 0 d'.body/\th.code.length<=200:=fun p' h1 h2 th hth=>by
    rcases Qvz r p' q h1 th hth with h3|⟨d',regs,h3,h4⟩
    ·exact h2 th h3
    ·exact .inr ⟨d',regs,List.mem_cons_of_mem _ h3,h4⟩
   split at h
   ·exact lift _ h fun th hth=>.inl hth
   ·split at h
    ·exact lift _ h fun th hth=>.inl hth
    ·split at h
     ·exact lift _ h fun th hth=>.inl hth
     ·split at h
      ·exact lift _ h fun th hth=>.inl hth
      ·split at h
       ·rename_i h5;simp only at h;split at h
        ·cases h
        ·rename_i hlen;refine lift _ h fun th hth=>?_;simp only[List.mem_append,List.mem_singleton] at hth;rcases hth with hth|rfl
         ·exact .inl hth
         ·exact .inr ⟨d,_,List.mem_cons_self,h5,rfl,by simp only;omega⟩
       ·exact lift _ h fun th hth=>.inl hth
theorem makeS_th {t:Sp.Table} {ds:List Dc} {p:Pg} (h:zI t ds=some p):∀ th∈p.threads,th.code.length<=200/\∀ x∈th.code,0<=x.Jc:=fun th hth=>by
 rcases Qvz _ _ _ h th hth with h1|⟨d,regs,_,_,h2,h3⟩
 ·cases h1
 ·exact⟨h3,by rw[h2];exact UU _ _ _ _⟩
theorem ZB {ts:Qp} {rs:List (List Bs)} (hl:∀ s,0<=lenOf ts s/\lenOf ts s<=8):∀ (ds:List Dc) (p q:Pg),XO ts rs p ds=some q->q.threads.length<=p.threads.length+ds.length/\q.sems.length<=p.sems.length+ds.length/\p.mutexes<=q.mutexes/\q.mutexes<=p.mutexes+ds.length/\q.cells.length<=p.cells.length+8*ds.length
 | [],p,q,h=>by rw[XO] at h;cases h;simp -implicitDefEqProofs
 | d::r,p,q,h=>by
   rw[XO] at h;rw[List.length_cons];split at h
   ·have:=ZB hl r _ q h;simp -implicitDefEqProofs at this;omega
   ·split at h
    ·have h1:=ZB hl r _ q h;have h2:=hl d.name;simp -implicitDefEqProofs at h1;omega
    ·split at h
     ·have:=ZB hl r _ q h;simp -implicitDefEqProofs at this;omega
     ·split at h
      ·have:=ZB hl r _ q h;simp -implicitDefEqProofs at this;omega
      ·split at h
       ·simp only at h;split at h
        ·cases h
        ·have:=ZB hl r _ q h;simp -implicitDefEqProofs at this;omega
       ·have:=ZB hl r _ q h;omega
theorem vQ (x:Sm) (hx:Rng x) (pc:Int):Ql TC 3 [Zj x,.int .i64 pc] (.bool true):=by
 have hz:=jn;have hz30:=QNq;have hli:=Light_ok x;have hbd:=fun h=>Bodies_ok x (hx.ok h);simp only[Zj] at hli hbd;refine ent Tryz.func3 fun L K hL hR hN hP=>?_;simp -implicitDefEqProofs [Zj];refine Qc Wnq ?_;simp -implicitDefEqProofs;refine Qc hli ?_;cases hl:JV x with
 | false=>
   simp -implicitDefEqProofs;exact hR _ (.pure rfl (.refl _))
 | true=>
   simp -implicitDefEqProofs;refine Qe.ZN (hbd hl) (by decide) rfl ?_;rintro v (⟨l,b1,b2,n,p,rfl⟩|⟨s,ds,t,p,h1,h2,h3,h4,rfl⟩)
   ·simp -implicitDefEqProofs [Yw,hz,hz30];exact hR _ (.pure rfl (.refl _))
   ·have hth:=makeS_th h4;simp -implicitDefEqProofs [Yw,VU,hz,hz30];have hmk:=read_mk (by omega) h2 h3;have hpl:=(ZB hmk.lens _ _ _ h4).1;have hdl:=hmk.len;have hptl:p.threads.length<=1000000:=by simpa using Nat.le_trans hpl (by simpa using hdl)
    refine QB (α:=Nat) (fun k=>k<=p.threads.length) (fun k=>[(1,.int .i64 pc),(27,.slice (p.threads.map XA)),(28,.int .i64 p.threads.length),(29,.int .i64 (k:Int))]) (fun _=>[]) (fun k=>p.threads.length - k) 0 (by simp -implicitDefEqProofs) twk ?_;rintro k L1 K1 hk hL1 - hnext hex hrt - -;have hLL:L<L1:=hL1;simp -implicitDefEqProofs;refine Qv.mk (fun hb=>?_) fun hb=>?_
    ·have hkl:k<p.threads.length:=by simp -implicitDefEqProofs at hb;omega
     have w1:=wr2 k;obtain⟨e1,e2⟩:=il hkl;obtain⟨th,ht⟩:=gE hkl;have hte:=(gS ht).2;obtain⟨hc,hg⟩:=hth th (List.mem_of_getElem? ht);have both:∀ j:Int,Ql TC 11 [XA th,.int .i64 j] (.slice ((Xz th.code j).map encI))/\Ql TC 12 [.slice (th.code.map QM),.int .i64 j] (.slice ((Xz th.code j).map encI))/\Ql TC 10 [.slice ((Xz th.code j).map encI),.slice ((Xz th.code j).map encI)] (.bool true):=fun j=>by
      have q1:=vM th j (by omega);have q2:=LReach_ok th.code j (by omega) hg;rw[QUz hg] at q2;have hsl:=(wQ (c:=th.code) (pc:=j)).2;have q3:=yw (Xz th.code j) (Xz th.code j) (by unfold short;omega) (by unfold short;omega);rw[decide_eq_true rfl] at q3;exact⟨q1,q2,q3⟩
     obtain⟨code,regs⟩:=th;have hc':code.length<=200:=hc;simp only[XA] at both;simp -implicitDefEqProofs [e1,hkl,hte,XA];obtain⟨q1,q2,q3⟩:=both pc;refine Qc q1 ?_;simp -implicitDefEqProofs;refine Qc q2 ?_;simp -implicitDefEqProofs;refine Qc q3 ?_;simp -implicitDefEqProofs;refine QB (α:=Nat) (fun j=>j<=code.length) (fun j=>[(1,.int .i64 pc),(10,.ptr (L1,0) 0),(27,.slice (p.threads.map XA)),(28,.int .i64 p.threads.length),(29,.int .i64 (k:Int)),(44,.int .i64 code.length),(45,.int .i64 (j:Int))]) (fun _=>[((L1,0),.cells 41 [.slice (code.map QM),.slice (regs.map encS)])]) (fun j=>code.length - j) 0 (by simp -implicitDefEqProofs) twk ?_;rintro j L2 K2 hj hL2 - hnext2 hex2 hrt2 - -;simp -implicitDefEqProofs;refine Qv.mk (fun hb=>?_) fun hb=>?_
     ·have hjl:j<code.length:=by simp -implicitDefEqProofs at hb;omega
      have w2:=wr2 j;obtain⟨q1,q2,q3⟩:=both (j:Int);simp -implicitDefEqProofs;refine Qc q1 ?_;simp -implicitDefEqProofs;refine Qc q2 ?_;simp -implicitDefEqProofs;refine Qc q3 ?_;simp -implicitDefEqProofs [w2];exact hnext2 _ (j+1) (by omega) (by omega) twk
     ·have hjl:j=code.length:=by simp -implicitDefEqProofs at hb;omega
      subst hjl;simp -implicitDefEqProofs;refine hex2 _ _ ?_;simp -implicitDefEqProofs [w1];exact hnext _ (k+1) (by omega) (by omega) twk
    ·have hkl:k=p.threads.length:=by simp -implicitDefEqProofs at hb;omega
     subst hkl;simp -implicitDefEqProofs;refine hex _ _ ?_;simp -implicitDefEqProofs;exact hR _ (.pure rfl (.refl _))
theorem u8w {n:Int} (h:(Lit.int .u8 n).wf=true):0<=n/\n<256:=by
 have:0<=n/\n<=255:=by simpa[Lit.wf,IntKind.min,IntKind.max,IntKind.signed,IntKind.bits] using h
 omega
theorem i8w {n:Int} (h:(Lit.int .i8 n).wf=true):-128<=n/\n<128:=by
 have:-128<=n/\n<=127:=by simpa[Lit.wf,IntKind.min,IntKind.max,IntKind.signed,IntKind.bits] using h
 omega
theorem sm_arg {H:Type} {enc:TypeId × Value->H} {w:World} {base:Nat} {spare:Nat->Bool} {held:Bool} {v:Value} {q:DataW H} {ps:List MemPlace}
 (ht:DataW.Trod enc Tryz.prog w base spare held 25 v q ps) (hv:∃ cs,v = .agg cs):
 ∃ x:Sm,Rep (Amb.start w) (Zj x) v/\Rng x:=by
 obtain⟨xs,h1,h2⟩:=QOz (d:=7) Tryz.underlying25 (by kernel_rfl) ht hv;obtain⟨a1,b1,rfl,-,s1,a2,b2,rfl,-,s2,a3,b3,rfl,-,s3,a4,b4,rfl,-,s4,a5,b5,rfl,-,s5,a6,b6,rfl,-,s6,a7,b7,rfl,-,s7,rfl⟩:=h2;unfold Sh at s1 s2 s3 s4 s5 s6 s7;rw[Tryz.underlying5] at s1 s2 s3 s4 s5;rw[Tryz.underlying22] at s6;rw[Tryz.underlying23] at s7;obtain⟨n1,rfl,r1⟩:=s1;obtain⟨n2,rfl,r2⟩:=s2;obtain⟨n3,rfl,r3⟩:=s3;obtain⟨n4,rfl,r4⟩:=s4;obtain⟨n5,rfl,r5⟩:=s5;obtain⟨n6,rfl,r6⟩:=s6;obtain⟨css,rfl,_,hcs⟩:=s7;have key:∀ cs∈css,∃ l:List SS,cs=[V.slice (l.map XH)]/\∀ s∈l,s.Ok:=by
  intro cs hc;have h4:=hcs cs hc;unfold Sh at h4;rw[Tryz.underlying73] at h4;obtain⟨dss,rfl,_,hds⟩:=h4;have key2:∀ ds∈dss,∃ s:SS,ds=(XH s).cells/\s.Ok:=by
   intro ds hd;have h5:=hds ds hd;unfold Sh at h5;rw[Tryz.underlying166] at h5;obtain⟨a1,b1,rfl,-,s1,a2,b2,rfl,-,s2,a3,b3,rfl,-,s3,a4,b4,rfl,-,s4,a5,b5,rfl,-,s5,rfl⟩:=h5;unfold Sh at s1 s2 s3 s4 s5;rw[Tryz.underlying5] at s1 s2 s3 s4;rw[Tryz.underlying22] at s5;obtain⟨n1,rfl,r1⟩:=s1;obtain⟨n2,rfl,r2⟩:=s2;obtain⟨n3,rfl,r3⟩:=s3;obtain⟨n4,rfl,r4⟩:=s4;obtain⟨n5,rfl,r5⟩:=s5;exact⟨⟨n1,n2,n3,n4,n5⟩,rfl,⟨u8w r1,u8w r2,u8w r3,u8w r4,i8w r5⟩⟩
  obtain⟨l,rfl,hl⟩:=vA key2;refine⟨l,?_,hl⟩;congr 2;rw[List.map_map];apply List.map_congr_left;intro s _;simp only[Function.comp];unfold vOf;rw[Tryz.underlying166]<;>rfl
 obtain⟨ls,rfl,hls⟩:=vA key;refine⟨⟨n1,n2,n3,n4,n5,n6,ls⟩,?_,⟨u8w r1,u8w r2,u8w r3,u8w r4,u8w r5,i8w r6,fun l hl s hs=>hls l hl s hs⟩⟩;have e:(ls.map fun l:List SS=>[V.slice (l.map XH)]).map (vOf Tryz.prog 73)=ls.map fun l=>V.slice (l.map XH):=by
  rw[List.map_map];apply List.map_congr_left;intro s _;simp only[Function.comp];unfold vOf;rw[Tryz.underlying73]<;>rfl
 rw[e] at h1;exact h1
end Go.Awp.R3
