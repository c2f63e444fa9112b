/- P14.1: what a thread may touch is what the statement lists. -/
import Derived.Test.YtnielafbkgpgjaaGreatDoorYQ91
set_option linter.all false
set_option maxRecDepth 100000
set_option maxHeartbeats 8000000
namespace Go.Awp.R3
open Go.Awp.R1 Go Go.Awp Go.Proofs Go.Awp.Sp Go.Awp.B
theorem mem_insMarks (x:Ins) (a:Mk):a∈XT x↔touchB a.o x=true/\a.w=(x.kind != 1&&x.kind != 12):=by
 have hn:Qz x.kind=(decide (1<=x.kind)&&decide (x.kind<=12)):=by
  unfold Qz;by_cases h1:0<x.kind<;>by_cases h2:x.kind<13<;>simp[h1,h2]<;>omega
 unfold XT touchB;rw[hn];by_cases h:(decide (1<=x.kind)&&decide (x.kind<=12))=true
 ·rw[if_pos h,h,Bool.true_and,List.mem_map];constructor
  ·rintro⟨k,hk,rfl⟩;rw[List.mem_range] at hk;refine⟨?_,rfl⟩;simp only[Bool.and_eq_true,decide_eq_true_eq];omega
  ·rintro⟨h1,h2⟩;simp only[Bool.and_eq_true,decide_eq_true_eq] at h1;refine⟨(a.o - x.base).toNat,List.mem_range.2 (by omega),?_⟩;cases a;simp only at h1 h2 ⊢;rw[h2];congr 1;omega
 ·rw[if_neg h];have:(decide (1<=x.kind)&&decide (x.kind<=12))=false:=by simpa using h
  rw[this];simp
theorem mem_ofMarks (p:Pg) (t:Nat) (c:List Ins) (pc:Int) (a:Mk):a∈VK p t c pc↔a=⟨WX p t,true⟩∨∃ i∈Xz c pc,touchB a.o (c.getD i default)=true/\a.w=((c.getD i default).kind != 1&&(c.getD i default).kind != 12):=by
 unfold VK;rw[List.mem_cons,List.mem_flatMap];simp only[mem_insMarks]
theorem of_some (p:Pg) (t:Nat) (c:List Ins) (pc o:Int):(∃ a∈VK p t c pc,a.o=o)↔(decide (o=WX p t)||anyX (touchB o) c (Xz c pc))=true:=by
 rw[Bool.or_eq_true,decide_eq_true_eq];unfold anyX;rw[List.any_eq_true];constructor
 ·rintro⟨a,ha,rfl⟩;rcases (mem_ofMarks p t c pc a).1 ha with rfl|⟨i,hi,h1,-⟩
  ·exact .inl rfl
  ·exact .inr ⟨i,hi,h1⟩
 ·rintro (rfl|⟨i,hi,h1⟩)
  ·exact⟨⟨WX p t,true⟩,(mem_ofMarks p t c pc _).2 (.inl rfl),rfl⟩
  ·exact⟨⟨o,(c.getD i default).kind != 1&&(c.getD i default).kind != 12⟩,(mem_ofMarks p t c pc _).2 (.inr ⟨i,hi,h1,rfl⟩),rfl⟩
theorem of_write (p:Pg) (t:Nat) (c:List Ins) (pc o:Int):((VK p t c pc).any fun a=>a.o == o&&a.w)=(decide (o=WX p t)||anyX (touchW o) c (Xz c pc)):=by
 rw[Bool.eq_iff_iff,Bool.or_eq_true,decide_eq_true_eq,List.any_eq_true];unfold anyX touchW;rw[List.any_eq_true];constructor
 ·rintro⟨a,ha,h⟩;rw[Bool.and_eq_true,beq_iff_eq] at h;obtain⟨rfl,hw⟩:=h;rcases (mem_ofMarks p t c pc a).1 ha with rfl|⟨i,hi,h1,h2⟩
  ·exact .inl rfl
  ·exact .inr ⟨i,hi,by rw[h1,<- h2,hw];rfl⟩
 ·rintro (rfl|⟨i,hi,h⟩)
  ·exact⟨⟨WX p t,true⟩,(mem_ofMarks p t c pc _).2 (.inl rfl),by simp⟩
  ·rw[Bool.and_eq_true] at h;exact⟨⟨o,(c.getD i default).kind != 1&&(c.getD i default).kind != 12⟩,(mem_ofMarks p t c pc _).2 (.inr ⟨i,hi,h.1,rfl⟩),by rw[h.2];simp⟩
def wantO (p:Pg) (t:Nat) (c:List Ins) (pc:Int) (j:Nat):Option Mk:=
 if (decide ((j:Int)=WX p t)||anyX (touchB j) c (Xz c pc))=true then some ⟨j,decide ((j:Int)=WX p t)||anyX (touchW j) c (Xz c pc)⟩ else none
def wantL (p:Pg) (t:Nat) (c:List Ins) (pc:Int) (n:Nat):List Mk:=(List.range n).filterMap (wantO p t c pc)
theorem wantL_succ (p:Pg) (t:Nat) (c:List Ins) (pc:Int) (j:Nat):wantL p t c pc (j+1)=wantL p t c pc j++(wantO p t c pc j).toList:=by
 unfold wantL;rw[List.range_succ,List.filterMap_append];congr 1
theorem wantL_len (p:Pg) (t:Nat) (c:List Ins) (pc:Int) (j:Nat):(wantL p t c pc j).length<=j:=by
 have:=List.length_filterMap_le (wantO p t c pc) (List.range j);simpa[wantL] using this
theorem tells {p:Pg} (hm:Made p) {t:Nat} {th:Th} (ht:p.threads[t]? = some th) (pc:Int) (n:Nat) (hn:(n:Int)=WX p 0+p.threads.length):(newE t (VK p t th.code pc)).m=wantL p t th.code pc n:=by
 have htl:=(gS ht).1;have htm:=List.mem_of_getElem? ht;have hst:WX p t=WX p 0+t:=by unfold WX;omega
 have hfew:=hm.few;refine eq_of_rising (newE_rising _ _) ?_ fun m=>?_
 ·unfold wantL;rw[List.pairwise_filterMap];refine (List.pairwise_lt_range (n:=n)).imp fun {a b} hlt x hx y hy=>?_;unfold wantO at hx hy;split at hx
  ·split at hy
   ·cases hx;cases hy;show (a:Int)<(b:Int);omega
   ·cases hy
  ·cases hx
 ·rw[mem_newE,of_some,of_write];unfold wantL;rw[List.mem_filterMap];constructor
  ·rintro⟨h1,h2⟩;have hb:0<=m.o/\m.o<n:=by
    rw[Bool.or_eq_true,decide_eq_true_eq] at h1;rcases h1 with h1|h1
    ·omega
    ·unfold anyX at h1;obtain⟨i,hi,h3⟩:=List.any_eq_true.1 h1;have hil:=(mem_reachL.1 hi).1;have hx:th.code.getD i default∈th.code:=by rw[List.getD_eq_getElem?_getD,List.getElem?_eq_getElem hil];exact List.getElem_mem hil
     have:=hm.ins th htm _ hx;unfold touchB at h3;simp only[Bool.and_eq_true,decide_eq_true_eq] at h3;omega
   have hc:((m.o.toNat:Nat):Int)=m.o:=by omega
   refine⟨m.o.toNat,List.mem_range.2 (by omega),?_⟩;unfold wantO;rw[hc,if_pos h1,<- h2]
  ·rintro⟨j,hj,h⟩;unfold wantO at h;split at h
   ·rename_i h1;cases h;exact⟨h1,rfl⟩
   ·cases h
theorem FootTells_ok (x:Sm) (hx:Rng x) (pc:Int) (hpc:0<=pc/\pc<256) (nn:Int):Ql TC 5 [Zj x,.int .u8 pc,.int .i64 nn] (.bool true):=by
 have hz:=jn;have hz30:=QNq;have hli:=Light_ok x;have hbd:=fun h=>Bodies_ok x (hx.ok h);simp only[Zj] at hli hbd;refine ent Tryz.func5 fun L K hL hR hN hP=>?_;simp[Zj];refine Qc Wnq ?_;simp;refine Qc hli ?_;cases hl:JV x with
 | false=>
   simp;exact hR _ (.pure rfl (.refl _))
 | true=>
   simp;refine Qe.ZN (hbd hl) (by decide) rfl ?_;rintro v (⟨l,b1,b2,n,p,rfl⟩|⟨s,ds,t,p,h1,h2,h3,h4,rfl⟩)
   ·simp[Yw,hz,hz30];exact hR _ (.pure rfl (.refl _))
   ·have hmk:=read_mk (by omega) h2 h3;have hmd:=made_of hmk h3 h4;have hof:=fun (k:Nat) th ht (j:Int)=>Of_ok p hmd.ok k th ht j (New_all _ _ (ofMarks_len hmd.ok ht j));have hspn:=fun (k:Nat) th ht (j:Int)=>yr p hmd.ok k th ht j (hmd.spawn th (List.mem_of_getElem? ht));have hto:=fun (k:Nat) th ht (j o:Int) ho=>Touches_ok p hmd k th ht j o ho;have hob:=Objects_ok p hmd.ok.small;have hst:=yq p hmd.ok.small 0 ⟨by omega,by omega⟩;have hofn:=fun (h:¬ (0<=nn/\nn<p.threads.length))=>Of_none p nn 0 h;have hspnn:=fun (h:¬ (0<=nn/\nn<p.threads.length))=>Spawns_none p nn 0 h;have hpt:=hmd.few.1;obtain⟨hf1,hf2⟩:=hmd.few.2;obtain⟨N,hN⟩:∃ N:Nat,(N:Int)=WX p 0+p.threads.length:=⟨(WX p 0+p.threads.length).toNat,by omega⟩
    rw[<- hN] at hob;simp only[Yw] at hof hspn hto hob hst hofn hspnn;simp[Yw,VU,hz,hz30];obtain⟨PC,hPC⟩:∃ PC:List V,PC=[.slice (p.threads.map XA),.slice (p.cells.map Qu),.int .i64 p.mutexes,.slice (p.sems.map fun n=>.int .i64 n),.int .i64 p.budget]:=⟨_,rfl⟩
    refine QB (α:=Nat) (fun k=>k<=p.threads.length) (fun k=>[(1,.int .u8 pc),(2,.int .i64 nn),(9,.ptr (L,2) 0),(37,.slice (p.threads.map XA)),(38,.int .i64 p.threads.length),(39,.int .i64 (k:Int))]) (fun _=>[((L,2),.cells 35 PC)]) (fun k=>p.threads.length - k) 0 (by simp) (Qb (by simp) (by simp[hPC]) (by simp)) ?_;rintro k L1 K1 hk hL1 - hnext hex hrt - -;subst hPC;obtain⟨hLL,m4,m5⟩:=llu L hL1;simp;refine Qv.mk (fun hb=>?_) fun hb=>?_
    ·have hkl:k<p.threads.length:=by simp at hb;omega
     have w1:=wr2 k;obtain⟨e1,e2⟩:=il hkl;obtain⟨th,ht⟩:=gE hkl;have hte:=(gS ht).2;have htm:=List.mem_of_getElem? ht;have hc:=hmd.ok.code th htm;have hrc:=fun j:Int=>LReach_ok th.code j (by omega) (hmd.Jc th htm);have hrs:=fun j:Int=>QUz (pc:=j) (hmd.Jc th htm);have hof:=hof k th ht;have hspn:=hspn k th ht;have hto:=hto k th ht;have hml:=fun j:Int=>ofMarks_len hmd.ok ht j;have htell:=fun j:Int=>tells hmd ht j N hN;have hins:=hmd.ok.ins _ htm;have hspb:=hmd.spawn th htm;obtain⟨code,regs⟩:=th;have hc:code.length<=200:=hc;simp only at hrc hrs hof hspn hto hml htell hins hspb;have w2:IntKind.i64.wrap pc=pc:=wrap_i64 (by omega) (by omega);have w3:IntKind.i64.wrap ((code.length:Int)+1)=code.length+1:=wrap_i64 (by omega) (by omega);have w4:¬ ((code.length:Int)+1=0):=by omega
     obtain⟨at_,hat⟩:∃ at_:Int,at_=pc.tmod ((code.length:Int)+1):=⟨_,rfl⟩
     have w5:IntKind.i64.wrap at_=at_:=by
      have h1:=Int.tmod_lt_of_pos pc (show (0:Int)<(code.length:Int)+1 by omega);have h2:=Int.tmod_nonneg ((code.length:Int)+1) hpc.1;exact wrap_i64 (by omega) (by omega)
     simp[e1,hkl,hte,XA,w2,w3,w4,<- hat,m4];refine Qc hob ?_;simp;refine Qw (WM (t:=14) (el:=49) (sz:=2) (by simp) (by decide)) ?_;refine QB (α:=Nat) (fun j=>j<=N) (fun j=>[(1,.int .u8 pc),(2,.int .i64 nn),(9,.ptr (L,2) 0),(11,.int .i64 (k:Int)),(12,.ptr (L1,0) 0),(13,.int .i64 at_),(14,.vec (L1,1) (wantL p k code at_ j).length),(37,.slice (p.threads.map XA)),(38,.int .i64 p.threads.length),(39,.int .i64 (k:Int)),(52,.int .i64 (N:Int)),(53,.int .i64 (j:Int))])
      (fun j=>[((L1,1),.vec 49 2 ((wantL p k code at_ j).map encM) (wantL p k code at_ j).length true),((L1,0),.cells 41 [.slice (code.map QM),.slice (regs.map encS)]),((L,2),.cells 35 [.slice (p.threads.map XA),.slice (p.cells.map Qu),.int .i64 p.mutexes,.slice (p.sems.map fun n=>.int .i64 n),.int .i64 p.budget])]) (fun j=>N - j) 0 (by simp) (Qb (by simp[wantL]) (by simp[wantL]) (by simp[m4])) ?_
     rintro j L2 K2 hj hL2 - hnext2 hex2 hrt2 - -;have hL12:L1<L2:=hL2;have m6:¬ L2=L:=by omega
     have m7:¬ L=L2:=by omega
     have m8:¬ L2=L1:=by omega
     have m9:¬ L1=L2:=by omega
     simp;refine Qv.mk (fun hb=>?_) fun hb=>?_
     ·have hjl:j<N:=by simp at hb;omega
      have v1:=wr2 j;have hsucc:=wantL_succ p k code at_ j;have hlen:=wantL_len p k code at_ j;obtain⟨W,hW⟩:∃ W,wantL p k code at_ j=W:=⟨_,rfl⟩
      rw[hW] at hsucc hlen;rw[hW];simp[m4];refine Qc (hto at_ (j:Int) ⟨by omega,by omega⟩) ?_;have hwo:wantO p k code at_ j=if (decide ((j:Int)=WX p k)||anyX (touchB j) code (Xz code at_))=true then some ⟨j,decide ((j:Int)=WX p k)||anyX (touchW j) code (Xz code at_)⟩ else none:=rfl
      generalize hS:(decide ((j:Int)=WX p k)||anyX (touchB j) code (Xz code at_))=S at hwo ⊢;generalize hT:(decide ((j:Int)=WX p k)||anyX (touchW j) code (Xz code at_))=T at hwo ⊢;cases S with
      | false=>
        have hwn:wantL p k code at_ (j+1)=W:=by rw[hsucc,hwo];simp
        simp[v1];exact hnext2 _ (j+1) (by omega) (by omega) (Qb (by simp[hwn]) (by simp[hwn]) (by simp[m4]))
      | true=>
        have hwn:wantL p k code at_ (j+1)=W++[⟨j,T⟩]:=by rw[hsucc,hwo]<;>rfl
        have c1:W.length<=9223372036854775806:=by omega
        have c2:(W.length+1)*16<=140737488355328:=by omega
        simp[v1,c1,c2];exact hnext2 _ (j+1) (by omega) (by omega) (Qb (by simp[hwn]) (by simp[hwn,encM]) (by simp[m4]))
     ·have hjl:j=N:=by simp at hb;omega
      subst hjl;simp;refine hex2 _ _ ?_;have hte2:=htell at_;have hWl:=wantL_len p k code at_ j;obtain⟨W,hW⟩:∃ W,wantL p k code at_ j=W:=⟨_,rfl⟩
      rw[hW] at hte2 hWl;rw[hW];simp;have hrc1:=hrc at_;rw[hrs at_] at hrc1;refine Qc hrc1 ?_;obtain⟨hRm,hRl⟩:=wQ (c:=code) (pc:=at_);have hsf:qN p code at_=(Xz code at_).foldl (fun s i=>Zy p s (code.getD i default)) 0:=rfl;obtain⟨R,hR0⟩:∃ R,Xz code at_=R:=⟨_,rfl⟩
      rw[hR0] at hRm hRl hsf;rw[hR0];simp[encNs];refine QB (α:=Nat × Int) (fun q=>q.1<=R.length/\qN p code at_=(R.drop q.1).foldl (fun s i=>Zy p s (code.getD i default)) q.2) (fun q=>[(1,.int .u8 pc),(2,.int .i64 nn),(9,.ptr (L,2) 0),(11,.int .i64 (k:Int)),(12,.ptr (L1,0) 0),(13,.int .i64 at_),(14,.vec (L1,1) W.length),(18,.int .u64 q.2),(37,.slice (p.threads.map XA)),(38,.int .i64 p.threads.length),(39,.int .i64 (k:Int)),(75,.slice (R.map fun (n:Nat)=>V.int .i64 (n:Int))),(76,.int .i64 R.length),(77,.int .i64 (q.1:Int))])
       (fun q=>[((L1,1),.vec 49 2 (W.map encM) W.length true),((L1,0),.cells 41 [.slice (code.map QM),.slice (regs.map encS)]),((L,2),.cells 35 [.slice (p.threads.map XA),.slice (p.cells.map Qu),.int .i64 p.mutexes,.slice (p.sems.map fun n=>.int .i64 n),.int .i64 p.budget])]) (fun q=>R.length - q.1) (0,0) ⟨by simp,by simpa using hsf⟩ (twk (hn:=by simp[m4])) ?_
      rintro⟨q,sv⟩ L2 K2 ⟨hq,hs⟩ hL2 - hnext2 hex2 hrt2 - -;have hL12:L1<L2:=hL2;have m6:¬ L2=L:=by omega
      have m7:¬ L=L2:=by omega
      have m8:¬ L2=L1:=by omega
      have m9:¬ L1=L2:=by omega
      have hq:q<=R.length:=hq;simp only at hs;simp;refine Qv.mk (fun hb=>?_) fun hb=>?_
      ·have hql:q<R.length:=by simp at hb;omega
       have u1:=wr2 q;obtain⟨q1,q2⟩:=il hql;obtain⟨i,hi⟩:=gE hql;have hie:=(gS hi).2;have hil:=hRm i (List.mem_of_getElem? hi);obtain⟨y,hy⟩:=gE hil;have hye:=(gS hy).2;have hyd:code.getD i default=y:=by rw[List.getD_eq_getElem?_getD,hy]<;>rfl
       have hyo:=hins y (List.mem_of_getElem? hy);have hys:=hspb y (List.mem_of_getElem? hy);have i1:(0:Int)<=(i:Int):=by omega
       have i2:(i:Int)<code.length:=by omega
       rw[List.drop_eq_getElem_cons hql,hie,List.foldl_cons,hyd] at hs;obtain⟨kind,reg,base,len,ix,xs,to⟩:=y;simp[q1,hql,hie,i1,hil,hye,QM];by_cases h11:kind=11
       ·have hb11:(kind == 11)=true:=by simp[h11]
        have hbs:=hys h11;simp only at hbs;obtain⟨bb0,bb1⟩:=hyo.base;simp only at bb0 bb1;have hss:Zy p sv ⟨kind,reg,base,len,ix,xs,to⟩=bitI .or .u64 sv (IntKind.u64.wrap (2 ^ (min (base - WX p 0).toNat IntKind.u64.bits))):=by unfold Zy;rw[if_pos h11]
        rw[hss] at hs;have x3:IntKind.i64.wrap (base - WX p 0)=base - WX p 0:=wrap_i64 (by omega) (by omega);have p0:0<=base - WX p 0:=by omega
        simp[hb11,m4,m6];refine Qc hst ?_;simp[x3,hbs,u1];exact hnext2 _ (q+1,bitI .or .u64 sv (IntKind.u64.wrap (2 ^ (min (base - WX p 0).toNat IntKind.u64.bits)))) ⟨by omega,hs⟩ (by simp;omega) (twk (hn:=by simp[m4,m6,m8]))
       ·have hb11:(kind == 11)=false:=by simp[h11]
        have hss:Zy p sv ⟨kind,reg,base,len,ix,xs,to⟩=sv:=by unfold Zy;rw[if_neg h11]
        rw[hss] at hs;simp[hb11,u1];exact hnext2 _ (q+1,sv) ⟨by omega,hs⟩ (by simp;omega) (twk (hn:=by simp[m4,m6,m8]))
      ·have hql:q=R.length:=by simp at hb;omega
       subst hql;rw[List.drop_length,List.foldl_nil] at hs;simp;refine hex2 _ _ ?_;simp[m4];refine Qc (hof at_) ?_;have hNl:(newE k (VK p k code at_)).m.length<=1000000:=Nat.le_trans (newE_length _ _) (hml at_);rw[hte2] at hNl;rw[hte2];have heq:=EqMarks_ok W W (by unfold short;omega) (by unfold short;omega);rw[decide_eq_true rfl] at heq;simp;refine Qe.borrow heq (.cons (.refl _) (.cons (.vec (t:=49) (s:=2) (es:=W.map encM) (wr:=true) (by simp) (Qn _)) .nil)) rfl (by decide) ?_;simp[m4];refine Qc (hspn at_) ?_;simp[hs,w1];exact hnext _ (k+1) (by omega) (by omega) (twk (hn:=by simp[m4]))
    ·have hkl:k=p.threads.length:=by simp at hb;omega
     subst hkl;simp;refine hex _ _ ?_;by_cases g1:0<=nn
     ·by_cases g2:nn<p.threads.length
      ·simp[g1,g2];exact hR _ (.pure rfl (.refl _))
      ·simp[g1,g2];refine Qc (hofn (by omega)) ?_;simp;refine Qc (hspnn (by omega)) ?_;simp;exact hR _ (.pure rfl (.refl _))
     ·simp[g1];refine Qc (hofn (by omega)) ?_;simp;refine Qc (hspnn (by omega)) ?_;simp;exact hR _ (.pure rfl (.refl _))
end Go.Awp.R3
