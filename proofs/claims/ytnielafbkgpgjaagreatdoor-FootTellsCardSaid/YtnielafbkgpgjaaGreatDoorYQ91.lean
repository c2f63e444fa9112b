/- P14.1: the instructions that may come. -/
import Derived.Test.YtnielafbkgpgjaaGreatDoorX40
import Derived.Test.YtnielafbkgpgjaaGreatDoorX37
import Derived.Test.YtnielafbkgpgjaaGreatDoorX38
set_option linter.all false
set_option maxRecDepth 100000
set_option maxHeartbeats 8000000
namespace Go.Awp.R3
open Go.Awp.R1 Go Go.Awp Go.Proofs Go.Awp.Sp Go.Awp.B
structure Rng (x:Sm):Prop where
 cells:0<=x.cells/\x.cells<256
 array:0<=x.array/\x.array<256
 mutexes:0<=x.mutexes/\x.mutexes<256
 sems:0<=x.sems/\x.sems<256
 budget:0<=x.budget/\x.budget<256
 n:-128<=x.n/\x.n<128
 threads:∀ l∈x.threads,∀ s∈l,s.Ok
theorem Rng.ok {x:Sm} (h:Rng x) (hl:JV x=true):x.Ok:=by
 unfold JV at hl;simp only[Bool.and_eq_true,decide_eq_true_eq,List.all_eq_true] at hl;exact⟨h.cells,h.array,h.mutexes,h.sems,h.budget,h.n,h.threads,hl.1,hl.2⟩
mutual
theorem insS_goto (ts:Qp) (regs:List Bs):∀ (s:St) (p:Nat),∀ x∈insS ts regs p s,0<=x.Jc
 | .mk k reg name ix xs body els pl,p=>by
   by_cases h:k<15
   ·rw[insS,if_pos h];intro x hx;simp -implicitDefEqProofs at hx;subst hx;show (0:Int)<=0;decide
   ·rw[yS h];have h1:=UU ts regs body (p+1);have h2:=fun q=>UU ts regs els q;simp only;split
    ·intro x hx;rcases List.mem_cons.1 hx with rfl|hx
     ·show (0:Int)<=((_:Nat):Int);omega
     ·rcases List.mem_append.1 hx with hx|hx
      ·exact h1 x hx
      ·rw[List.mem_singleton] at hx;subst hx;show (0:Int)<=((p:Nat):Int);omega
    ·split
     ·intro x hx;rcases List.mem_cons.1 hx with rfl|hx
      ·show (0:Int)<=((_:Nat):Int);omega
      ·exact h1 x hx
     ·intro x hx;rcases List.mem_cons.1 hx with rfl|hx
      ·show (0:Int)<=((_:Nat):Int);omega
      ·rcases List.mem_append.1 hx with hx|hx
       ·rcases List.mem_append.1 hx with hx|hx
        ·exact h1 x hx
        ·rw[List.mem_singleton] at hx;subst hx;show (0:Int)<=((_:Nat):Int);omega
       ·exact h2 _ x hx
theorem UU (ts:Qp) (regs:List Bs):∀ (l:List St) (p:Nat),∀ x∈insL ts regs p l,0<=x.Jc
 | [],p=>by rw[insL];intro x hx;cases hx
 | s::r,p=>by
   rw[insL];intro x hx;rcases List.mem_append.1 hx with hx|hx
   ·exact insS_goto ts regs s p x hx
   ·exact UU ts regs r _ x hx
end
theorem Qvz {ts:Qp} {rs:List (List Bs)}:∀ (ds:List Dc) (p q:Pg),XO ts rs p ds=some q->∀ th∈q.threads,th∈p.threads∨∃ (d:Dc) (regs:List Bs),d∈ds/\d.sort=5/\th.code=insL ts regs 0 d.body/\th.code.length<=200
 | [],p,q,h=>by rw[XO] at h;cases h;exact fun th h=>.inl h
 | d::r,p,q,h=>by
   rw[XO] at h;have lift:∀ (p':Pg),XO ts rs p' r=some q->(∀ th∈p'.threads,th∈p.threads∨∃ (d':Dc) (regs:List Bs),d'∈d::r/\d'.sort=5/\th.code=insL ts regs 0 d'.body/\th.code.length<=200)->
    ∀ th∈q.threads,th∈p.threads∨∃ (d':Dc) (regs:List Bs),d'∈d::r/\d'.sort=5/\th.code=insL ts regs 0 d'.body/\th.code.length<=200:=fun p' h1 h2 th hth=>by
    rcases Qvz r p' q h1 th hth with h3|⟨d',regs,h3,h4⟩
    ·exact h2 th h3
    ·exact .inr ⟨d',regs,List.mem_cons_of_mem _ h3,h4⟩
   split at h
   ·exact lift _ h fun th hth=>.inl hth
   ·split at h
    ·exact lift _ h fun th hth=>.inl hth
    ·split at h
     ·exact lift _ h fun th hth=>.inl hth
     ·split at h
      ·exact lift _ h fun th hth=>.inl hth
      ·split at h
       ·rename_i h5;simp only at h;split at h
        ·cases h
        ·rename_i hlen;refine lift _ h fun th hth=>?_;simp only[List.mem_append,List.mem_singleton] at hth;rcases hth with hth|rfl
         ·exact .inl hth
         ·exact .inr ⟨d,_,List.mem_cons_self,h5,rfl,by simp only;omega⟩
       ·exact lift _ h fun th hth=>.inl hth
theorem makeS_th {t:Sp.Table} {ds:List Dc} {p:Pg} (h:zI t ds=some p):∀ th∈p.threads,th.code.length<=200/\∀ x∈th.code,0<=x.Jc:=fun th hth=>by
 rcases Qvz _ _ _ h th hth with h1|⟨d,regs,_,_,h2,h3⟩
 ·cases h1
 ·exact⟨h3,by rw[h2];exact UU _ _ _ _⟩
theorem ZB {ts:Qp} {rs:List (List Bs)} (hl:∀ s,0<=lenOf ts s/\lenOf ts s<=8):∀ (ds:List Dc) (p q:Pg),XO ts rs p ds=some q->q.threads.length<=p.threads.length+ds.length/\q.sems.length<=p.sems.length+ds.length/\p.mutexes<=q.mutexes/\q.mutexes<=p.mutexes+ds.length/\q.cells.length<=p.cells.length+8*ds.length
 | [],p,q,h=>by rw[XO] at h;cases h;simp -implicitDefEqProofs
 | d::r,p,q,h=>by
   rw[XO] at h;rw[List.length_cons];split at h
   ·have:=ZB hl r _ q h;simp -implicitDefEqProofs at this;omega
   ·split at h
    ·have h1:=ZB hl r _ q h;have h2:=hl d.name;simp -implicitDefEqProofs at h1;omega
    ·split at h
     ·have:=ZB hl r _ q h;simp -implicitDefEqProofs at this;omega
     ·split at h
      ·have:=ZB hl r _ q h;simp -implicitDefEqProofs at this;omega
      ·split at h
       ·simp only at h;split at h
        ·cases h
        ·have:=ZB hl r _ q h;simp -implicitDefEqProofs at this;omega
       ·have:=ZB hl r _ q h;omega
theorem u8w {n:Int} (h:(Lit.int .u8 n).wf=true):0<=n/\n<256:=by
 have:0<=n/\n<=255:=by simpa[Lit.wf,IntKind.min,IntKind.max,IntKind.signed,IntKind.bits] using h
 omega
theorem i8w {n:Int} (h:(Lit.int .i8 n).wf=true):-128<=n/\n<128:=by
 have:-128<=n/\n<=127:=by simpa[Lit.wf,IntKind.min,IntKind.max,IntKind.signed,IntKind.bits] using h
 omega
theorem sm_arg {H:Type} {enc:TypeId × Value->H} {w:World} {base:Nat} {spare:Nat->Bool} {held:Bool} {v:Value} {q:DataW H} {ps:List MemPlace}
 (ht:DataW.Trod enc Tryz.prog w base spare held 25 v q ps) (hv:∃ cs,v = .agg cs):
 ∃ x:Sm,Rep (Amb.start w) (Zj x) v/\Rng x:=by
 obtain⟨xs,h1,h2⟩:=QOz (d:=7) Tryz.underlying25 (by kernel_rfl) ht hv;obtain⟨a1,b1,rfl,-,s1,a2,b2,rfl,-,s2,a3,b3,rfl,-,s3,a4,b4,rfl,-,s4,a5,b5,rfl,-,s5,a6,b6,rfl,-,s6,a7,b7,rfl,-,s7,rfl⟩:=h2;unfold Sh at s1 s2 s3 s4 s5 s6 s7;rw[Tryz.underlying5] at s1 s2 s3 s4 s5;rw[Tryz.underlying22] at s6;rw[Tryz.underlying23] at s7;obtain⟨n1,rfl,r1⟩:=s1;obtain⟨n2,rfl,r2⟩:=s2;obtain⟨n3,rfl,r3⟩:=s3;obtain⟨n4,rfl,r4⟩:=s4;obtain⟨n5,rfl,r5⟩:=s5;obtain⟨n6,rfl,r6⟩:=s6;obtain⟨css,rfl,_,hcs⟩:=s7;have key:∀ cs∈css,∃ l:List SS,cs=[V.slice (l.map XH)]/\∀ s∈l,s.Ok:=by
  intro cs hc;have h4:=hcs cs hc;unfold Sh at h4;rw[Tryz.underlying73] at h4;obtain⟨dss,rfl,_,hds⟩:=h4;have key2:∀ ds∈dss,∃ s:SS,ds=(XH s).cells/\s.Ok:=by
   intro ds hd;have h5:=hds ds hd;unfold Sh at h5;rw[Tryz.underlying166] at h5;obtain⟨a1,b1,rfl,-,s1,a2,b2,rfl,-,s2,a3,b3,rfl,-,s3,a4,b4,rfl,-,s4,a5,b5,rfl,-,s5,rfl⟩:=h5;unfold Sh at s1 s2 s3 s4 s5;rw[Tryz.underlying5] at s1 s2 s3 s4;rw[Tryz.underlying22] at s5;obtain⟨n1,rfl,r1⟩:=s1;obtain⟨n2,rfl,r2⟩:=s2;obtain⟨n3,rfl,r3⟩:=s3;obtain⟨n4,rfl,r4⟩:=s4;obtain⟨n5,rfl,r5⟩:=s5;exact⟨⟨n1,n2,n3,n4,n5⟩,rfl,⟨u8w r1,u8w r2,u8w r3,u8w r4,i8w r5⟩⟩
  obtain⟨l,rfl,hl⟩:=vA key2;refine⟨l,?_,hl⟩;congr 2;rw[List.map_map];apply List.map_congr_left;intro s _;simp only[Function.comp];unfold vOf;rw[Tryz.underlying166]<;>rfl
 obtain⟨ls,rfl,hls⟩:=vA key;refine⟨⟨n1,n2,n3,n4,n5,n6,ls⟩,?_,⟨u8w r1,u8w r2,u8w r3,u8w r4,u8w r5,i8w r6,fun l hl s hs=>hls l hl s hs⟩⟩;have e:(ls.map fun l:List SS=>[V.slice (l.map XH)]).map (vOf Tryz.prog 73)=ls.map fun l=>V.slice (l.map XH):=by
  rw[List.map_map];apply List.map_congr_left;intro s _;simp only[Function.comp];unfold vOf;rw[Tryz.underlying73]<;>rfl
 rw[e] at h1;exact h1
def tabB (B:Bs->Int) (ds:List Dc):Qp:=ds.map fun d=>(WJ d,⟨d.sort,B (WJ d),objN d,d.num⟩)
def sumG (g:Int->Bool):List Dc->Int
 | []=>0
 | d::r=>(if g d.sort then objN d else 0)+sumG g r
theorem tabB_lookup {B:Bs->Int}:∀ {ds:List Dc} {w:Bs} {x:Zq},(tabB B ds).lookup w=some x->∃ d∈ds,WJ d=w/\x=⟨d.sort,B w,objN d,d.num⟩
 | [],w,x,h=>by simp[tabB] at h
 | d::r,w,x,h=>by
   unfold tabB at h;rw[List.map_cons,List.lookup_cons] at h;by_cases e:w=WJ d
   ·have:(w == WJ d)=true:=by simpa using e
    rw[this] at h;cases h;exact⟨d,by simp,e.symm,by rw[e]⟩
   ·have:(w == WJ d)=false:=by simpa using e
    rw[this] at h;obtain⟨d',h1,h2⟩:=tabB_lookup (ds:=r) h;exact⟨d',by simp[h1],h2⟩
theorem tabB_has {B:Bs->Int}:∀ {ds:List Dc},(ds.map WJ).Nodup->∀ d∈ds,(tabB B ds).lookup (WJ d)=some ⟨d.sort,B (WJ d),objN d,d.num⟩
 | [],_,d,h=>by cases h
 | d0::r,hn,d,h=>by
   rw[List.map_cons,List.nodup_cons] at hn;unfold tabB;rw[List.map_cons,List.lookup_cons];rcases List.mem_cons.1 h with rfl|h
   ·simp
   ·have:(WJ d == WJ d0)=false:=by
     rw[beq_eq_false_iff_ne];intro e;exact hn.1 (e▸List.mem_map_of_mem h)
    rw[this];exact tabB_has hn.2 d h
theorem tabB_rebase (B:Bs->Int) (ds:List Dc) (s:Bs) (b:Int):rebase (tabB B ds) s b=tabB (fun w=>if w=s then b else B w) ds:=by
 unfold rebase tabB;rw[List.map_map];apply List.map_congr_left;intro d _;simp only[Function.comp];by_cases e:WJ d=s
 ·rw[if_pos e,if_pos e]
 ·rw[if_neg e,if_neg e]
theorem placeG_tab (g:Int->Bool) (h4:g 4=false) {ds0:List Dc} (hn:(ds0.map WJ).Nodup) (hlo:∀ d∈ds0,0<=objN d):∀ (ds:List Dc) (n:Int) (B:Bs->Int),(∀ d∈ds,d∈ds0)->(ds.map WJ).Nodup->
 ∃ B',Zc g (n,tabB B ds0) ds=(n+sumG g ds,tabB B' ds0)/\(∀ d∈ds,g d.sort=true->n<=B' (WJ d)/\B' (WJ d)+objN d<=n+sumG g ds)/\(∀ w,(∀ d∈ds,g d.sort=true->WJ d≠w)->B' w=B w)/\0<=sumG g ds
 | [],n,B,_,_=>⟨B,by rw[Zc,sumG];simp,by simp,fun w _=>rfl,by simp[sumG]⟩
 | d::r,n,B,hin,hnd=>by
   rw[List.map_cons,List.nodup_cons] at hnd;have hr:∀ d∈r,d∈ds0:=fun d h=>hin d (by simp[h]);have hd0:=hin d (by simp);have hob:=hlo d hd0;by_cases hg:g d.sort=true
   ·have h4':d.sort≠4:=fun e=>by rw[e,h4] at hg;cases hg
    have hnm:WJ d=d.name:=by unfold WJ;rw[if_neg h4']
    have hlen:lenOf (tabB B ds0) d.name=objN d:=by
     unfold lenOf;rw[<- hnm,tabB_has hn d hd0]<;>rfl
    obtain⟨B',h1,h2,h3,h5⟩:=placeG_tab g h4 hn hlo r (n+objN d) (fun w=>if w=d.name then n else B w) hr hnd.2;have hBd:B' (WJ d)=n:=by
     rw[h3 (WJ d) fun d' hd' _ e=>hnd.1 (e▸List.mem_map_of_mem hd'),hnm,if_pos rfl]
    refine⟨B',?_,?_,?_,?_⟩
    ·rw[Zc,if_pos hg,hlen,tabB_rebase,h1,sumG,if_pos hg];congr 1;omega
    ·intro d' hd' hg';rw[sumG,if_pos hg];rcases List.mem_cons.1 hd' with rfl|hd'
     ·rw[hBd];omega
     ·have:=h2 d' hd' hg';omega
    ·intro w hw;rw[h3 w fun d' hd'=>hw d' (by simp[hd']),if_neg];exact fun e=>hw d (by simp) hg (by rw[hnm,e])
    ·rw[sumG,if_pos hg];omega
   ·obtain⟨B',h1,h2,h3,h5⟩:=placeG_tab g h4 hn hlo r n B hr hnd.2;refine⟨B',?_,?_,?_,?_⟩
    ·rw[Zc,if_neg hg,h1,sumG,if_neg hg,Int.zero_add]
    ·intro d' hd' hg';rw[sumG,if_neg hg,Int.zero_add];rcases List.mem_cons.1 hd' with rfl|hd'
     ·exact absurd hg' hg
     ·exact h2 d' hd' hg'
    ·intro w hw;exact h3 w fun d' hd'=>hw d' (by simp[hd'])
    ·rw[sumG,if_neg hg];omega
theorem declareL_things:∀ (ds seen:List Dc) (t t':Decls),(∀ d∈seen,objB d=true)->(seen.map WJ).Nodup->t.things=tabB (fun _=>0) seen->Xr t ds = .ok t'->
 t'.things=tabB (fun _=>0) (seen++ds)/\((seen++ds).map WJ).Nodup/\∀ d∈seen++ds,objB d=true
 | [],seen,t,t',hs,hn,ht,h=>by rw[Xr] at h;cases h;simp[ht,hn];simpa using hs
 | d::r,seen,t,t',hs,hn,ht,h=>by
   rw[Xr] at h;split at h
   ·cases h
   ·rename_i t1 h1;cases hB:Wo t d with
    | error e=>rw[(UA hB).1] at h1;cases h1
    | ok t2=>
      obtain⟨hl,hb,e2,h2,-⟩:=Uz hB;rw[h1] at h2;cases h2;have hs':∀ x∈seen++[d],objB x=true:=fun x hx=>by
       rcases List.mem_append.1 hx with hx|hx
       ·exact hs x hx
       ·rw[List.mem_singleton] at hx;subst hx;exact hb
      have hn':((seen++[d]).map WJ).Nodup:=by
       rw[List.map_append,List.nodup_append];refine⟨hn,by simp,fun a ha b hb e=>?_⟩;simp at hb;subst hb;subst e;obtain⟨x,hx,hxe⟩:=List.mem_map.1 ha;rw[ht,<- hxe,tabB_has hn x hx] at hl;cases hl
      have:=declareL_things r (seen++[d]) _ t' hs' hn' (by show t2.things=_;rw[e2];simp[tabB,ht]) h;simpa using this
theorem objN_range {d:Dc} (h:objB d=true):0<=objN d/\objN d<=8:=objN_le d h
structure Laid (ts:Qp) (ds:List Dc) (n1 n2 n3 n4:Int):Prop where
 tab:∃ B,ts=tabB B ds/\(∀ d∈ds,(d.sort=0∨d.sort=1)->0<=B (WJ d)/\B (WJ d)+objN d<=n1)/\(∀ d∈ds,d.sort=2->n1<=B (WJ d)/\B (WJ d)+objN d<=n2)/\(∀ d∈ds,d.sort=3->n2<=B (WJ d)/\B (WJ d)+objN d<=n3)/\(∀ d∈ds,d.sort=5->n3<=B (WJ d)/\B (WJ d)+objN d<=n4)
 names:(ds.map WJ).Nodup
 ok:∀ d∈ds,objB d=true
 e1:n1=sumG (fun s=>s == 0||s == 1) ds
 e2:n2=n1+sumG (fun s=>s == 2) ds
 e3:n3=n2+sumG (fun s=>s == 3) ds
 e4:n4=n3+sumG (fun s=>s == 5) ds
 le:0<=n1/\n1<=n2/\n2<=n3/\n3<=n4
theorem placeAll_laid {ds:List Dc} (hn:(ds.map WJ).Nodup) (hok:∀ d∈ds,objB d=true):∃ n1 n2 n3 n4,(Xq (tabB (fun _=>0) ds) ds).1=n3/\Laid (Xq (tabB (fun _=>0) ds) ds).2.1 ds n1 n2 n3 n4:=by
 have hlo:∀ d∈ds,0<=objN d:=fun d hd=>(objN_range (hok d hd)).1;obtain⟨B1,a1,a2,a3,a4⟩:=placeG_tab (fun s=>s == 0||s == 1) rfl hn hlo ds 0 (fun _=>0) (fun _ h=>h) hn;rw[Int.zero_add] at a1;simp only[Int.zero_add] at a2;obtain⟨B2,b1,b2,b3,b4⟩:=placeG_tab (fun s=>s == 2) rfl hn hlo ds (sumG (fun s=>s == 0||s == 1) ds) B1 (fun _ h=>h) hn;obtain⟨B3,c1,c2,c3,c4⟩:=placeG_tab (fun s=>s == 3) rfl hn hlo ds (sumG (fun s=>s == 0||s == 1) ds+sumG (fun s=>s == 2) ds) B2 (fun _ h=>h) hn;obtain⟨B4,d1,d2,d3,d4⟩:=placeG_tab (fun s=>s == 5) rfl hn hlo ds (sumG (fun s=>s == 0||s == 1) ds+sumG (fun s=>s == 2) ds+sumG (fun s=>s == 3) ds) B3 (fun _ h=>h) hn;have inj:∀ {x y:Dc},x∈ds->y∈ds->WJ x=WJ y->x=y:=fun {x y} hx hy e=>by
  have h1:=tabB_has (B:=fun _=>0) hn x hx;have:∀ (l:List Dc),(l.map WJ).Nodup->x∈l->y∈l->x=y:=fun l=>by
   induction l with
   | nil=>intro _ h;cases h
   | cons z r ih=>
     intro hn hx hy;rw[List.map_cons,List.nodup_cons] at hn;rcases List.mem_cons.1 hx with h1|h1
     ·rcases List.mem_cons.1 hy with h2|h2
      ·rw[h1,h2]
      ·exact absurd (h1▸e▸List.mem_map_of_mem h2) hn.1
     ·rcases List.mem_cons.1 hy with h2|h2
      ·exact absurd (h2▸e▸List.mem_map_of_mem h1) hn.1
      ·exact ih hn.2 h1 h2
  exact this ds hn hx hy
 have keep:∀ (g:Int->Bool) {B B':Bs->Int},(∀ w,(∀ d∈ds,g d.sort=true->WJ d≠w)->B' w=B w)->∀ d∈ds,g d.sort=false->B' (WJ d)=B (WJ d):=fun g B B' h d hd hg=>
  h _ fun d' hd' hg' e=>by rw[inj hd' hd e,hg] at hg';cases hg'
 refine⟨sumG (fun s=>s == 0||s == 1) ds,_,_,_,?_,⟨⟨B4,?_,?_,?_,?_,?_⟩,hn,hok,rfl,rfl,rfl,rfl,by omega⟩⟩
 ·unfold Xq;simp only[a1,b1,c1]
 ·unfold Xq;simp only[a1,b1,c1,d1]
 ·intro d hd hs;have hs':(d.sort == 0||d.sort == 1)=true:=by simpa using hs
  have:=a2 d hd hs';rw[keep (fun s=>s == 5) d3 d hd (by simp;omega),keep (fun s=>s == 3) c3 d hd (by simp;omega),keep (fun s=>s == 2) b3 d hd (by simp;omega)];exact this
 ·intro d hd hs;have:=b2 d hd (by simpa using hs);rw[keep (fun s=>s == 5) d3 d hd (by simp;omega),keep (fun s=>s == 3) c3 d hd (by simp;omega)];exact this
 ·intro d hd hs;have:=c2 d hd (by simpa using hs);rw[keep (fun s=>s == 5) d3 d hd (by simp;omega)];exact this
 ·intro d hd hs;exact d2 d hd (by simpa using hs)
theorem bodiesC_mem {ts:Qp}:∀ {ds:List Dc} {l:List (List Bs)},WT ts ds = .ok l->∀ d∈ds,d.sort=5->∃ r,Wu ts [] d.body = .ok r
 | [],l,_,d,h,_=>by cases h
 | d0::r,l,h,d,hd,h5=>by
   rw[WT] at h;split at h
   ·split at h
    ·cases h
    ·rename_i regs h1;split at h
     ·cases h
     ·rename_i l' h2;rcases List.mem_cons.1 hd with rfl|hd
      ·exact⟨_,h1⟩
      ·exact bodiesC_mem h2 d hd h5
   ·rename_i hn;rcases List.mem_cons.1 hd with rfl|hd
    ·exact absurd h5 hn
    ·exact bodiesC_mem h d hd h5
theorem checkS_laid {ds:List Dc} {t:Sp.Table} (h:Ya ds = .ok t):(∃ n1 n2 n3 n4,t.first=n3/\Laid t.things ds n1 n2 n3 n4)/\∀ d∈ds,d.sort=5->∃ r,Wu t.things [] d.body = .ok r:=by
 unfold Ya at h;split at h
 ·cases h
 ·rename_i t0 h0;obtain⟨h1,h2,h3⟩:=declareL_things ds [] _ _ (by simp) (by simp) rfl h0;simp only[List.nil_append] at h1 h2 h3;split at h
  ·cases h
  ·simp only at h;split at h
   ·cases h
   ·rename_i regs hb;cases h;obtain⟨n1,n2,n3,n4,e,hl⟩:=placeAll_laid h2 h3;rw[<- h1] at e hl;exact⟨⟨n1,n2,n3,n4,e,hl⟩,bodiesC_mem hb⟩
def InsP (ts:Qp) (x:Ins):Prop:=(x.base=0/\x.len=0/\Qz x.kind=false)∨∃ s y,ts.lookup s=some y/\x.base=y.base/\x.len=y.len/\Qz x.kind=true/\y.sort=uw x.kind x.indexed
theorem plainI_P {ts:Qp} {s:St} (regs:List Bs) (h:Yb ts s=0):InsP ts (wR ts regs s):=by
 unfold Yb at h;unfold wR;cases hn:Qz s.kind with
 | false=>exact .inl ⟨by simp,by simp,hn⟩
 | true=>
   rw[hn] at h;simp only[if_true] at h;cases hl:ts.lookup s.name with
   | none=>rw[hl] at h;simp[wv] at h
   | some y=>
     rw[hl] at h;simp only at h;refine .inr ⟨s.name,y,hl,?_,?_,hn,?_⟩
     ·simp
     ·simp[lenOf,hl]
     ·by_cases e:y.sort=uw s.kind s.indexed
      ·exact e
      ·rw[if_neg e] at h;simp[Jh] at h
mutual
theorem insS_P {ts:Qp}:∀ (s:St) (rg r:List Bs),qM ts rg s = .ok r->∀ (regs:List Bs) (p:Nat),∀ x∈insS ts regs p s,InsP ts x
 | .mk k reg name ix xs body els pl,rg,r,h,regs,p=>by
   rw[qM] at h;split at h
   ·cases h
   ·rename_i hab;have hab:Yb ts (.mk k reg name ix xs body els pl)=0:=by
     by_cases e:Yb ts (.mk k reg name ix xs body els pl)=0
     ·exact e
     ·exact absurd e hab
    split at h
    ·cases h
    ·split at h
     ·cases h
     ·split at h
      ·cases h
      ·rename_i rg2 h2;by_cases hk:k<15
       ·rw[insS,if_pos hk];intro x hx;rw[List.mem_singleton] at hx;subst hx;exact plainI_P regs hab
       ·rw[yS hk];have h1:=insL_P body _ _ h2 regs (p+1);have h3:=fun q=>insL_P els _ _ h regs q;have hb:∀ xs to,InsP ts (WS xs to):=fun _ _=>.inl ⟨rfl,rfl,rfl⟩;have hj:∀ to,InsP ts (Vo to):=fun _=>.inl ⟨rfl,rfl,rfl⟩;simp only;split
        ·intro x hx;rcases List.mem_cons.1 hx with rfl|hx
         ·exact hb _ _
         ·rcases List.mem_append.1 hx with hx|hx
          ·exact h1 x hx
          ·rw[List.mem_singleton] at hx;subst hx;exact hj _
        ·split
         ·intro x hx;rcases List.mem_cons.1 hx with rfl|hx
          ·exact hb _ _
          ·exact h1 x hx
         ·intro x hx;rcases List.mem_cons.1 hx with rfl|hx
          ·exact hb _ _
          ·rcases List.mem_append.1 hx with hx|hx
           ·rcases List.mem_append.1 hx with hx|hx
            ·exact h1 x hx
            ·rw[List.mem_singleton] at hx;subst hx;exact hj _
           ·exact h3 _ x hx
theorem insL_P {ts:Qp}:∀ (l:List St) (rg r:List Bs),Wu ts rg l = .ok r->∀ (regs:List Bs) (p:Nat),∀ x∈insL ts regs p l,InsP ts x
 | [],rg,r,_,regs,p=>by rw[insL];intro x hx;cases hx
 | s::rest,rg,r,h,regs,p=>by
   rw[Wu] at h;split at h
   ·cases h
   ·rename_i rg2 h1;rw[insL];intro x hx;rcases List.mem_append.1 hx with hx|hx
    ·exact insS_P s _ _ h1 regs p x hx
    ·exact insL_P rest _ _ h regs _ x hx
end
theorem makeL_sum {B:Bs->Int} {ds0:List Dc} (hn:(ds0.map WJ).Nodup) (hok:∀ d∈ds0,objB d=true):∀ (ds:List Dc) (rs:List (List Bs)) (p q:Pg),(∀ d∈ds,d∈ds0)->XO (tabB B ds0) rs p ds=some q->
 (q.cells.length:Int)=p.cells.length+sumG (fun s=>s == 0||s == 1) ds/\q.mutexes=p.mutexes+sumG (fun s=>s == 2) ds/\(q.sems.length:Int)=p.sems.length+sumG (fun s=>s == 3) ds/\(q.threads.length:Int)=p.threads.length+sumG (fun s=>s == 5) ds
 | [],rs,p,q,_,h=>by rw[XO] at h;cases h;simp[sumG]
 | d::r,rs,p,q,hin,h=>by
   have ih:=fun rs p q=>makeL_sum (B:=B) hn hok r rs p q fun d hd=>hin d (by simp[hd]);have hd0:=hin d (by simp);have hob:=objN_range (hok d hd0);rw[XO] at h;simp only[sumG];split at h
   ·rename_i hs;have:=ih _ _ _ h;have ho:objN d=1:=by unfold objN;simp[hs]
    simp[hs,ho] at this ⊢;omega
   ·split at h
    ·rename_i hs;have:=ih _ _ _ h;have hnm:WJ d=d.name:=by unfold WJ;simp[hs]
     have hlen:lenOf (tabB B ds0) d.name=objN d:=by
      unfold lenOf;rw[<- hnm,tabB_has hn d hd0]<;>rfl
     rw[hlen] at this;simp[hs] at this ⊢;omega
    ·split at h
     ·rename_i hs;have:=ih _ _ _ h;have ho:objN d=1:=by unfold objN;simp[hs]
      simp[hs,ho] at this ⊢;omega
     ·split at h
      ·rename_i hs;have:=ih _ _ _ h;have ho:objN d=1:=by unfold objN;simp[hs]
       simp[hs,ho] at this ⊢;omega
      ·split at h
       ·rename_i hs;simp only at h;split at h
        ·cases h
        ·have:=ih _ _ _ h;have ho:objN d=1:=by unfold objN;simp[hs]
         simp[hs,ho] at this ⊢;omega
       ·have:=ih _ _ _ h;rename_i s0 s1 s2 s3 s5;simp[s0,s1,s2,s3,s5] at this ⊢;omega
theorem checkS_40 {ds:List Dc} {t:Sp.Table} (h:Ya ds = .ok t):ds.length<=40:=by
 unfold Ya at h;split at h
 ·cases h
 ·rename_i t0 h0;have h1:=(declareL_things ds [] _ _ (by simp) (by simp) rfl h0).1;have ht:=zS (ds0:=ds) ds [] _ _ ⟨by simp,by simp,by simp,⟨by simp[QJq],by simp,by simp⟩⟩ h0;have h2:=ht.things;rw[h1] at h2;simpa[tabB] using h2
structure Made (p:Pg):Prop where
 ok:PgOk p
 Jc:∀ th∈p.threads,∀ x∈th.code,0<=x.Jc
 ins:∀ th∈p.threads,∀ x∈th.code,0<=x.base/\0<=x.len/\x.base+x.len<=WX p 0+p.threads.length
 spawn:∀ th∈p.threads,∀ x∈th.code,x.kind=11->WX p 0<=x.base
 few:p.threads.length<=40/\0<=WX p 0/\WX p 0<=400
theorem made_of {ds:List Dc} {t:Sp.Table} {p:Pg} (hmk:MkOk t ds) (h3:Ya ds = .ok t) (h4:zI t ds=some p):Made p:=by
 have h40:=checkS_40 h3;have hth:=makeS_th h4;obtain⟨m1,m2,m3,m4,m5⟩:=ZB hmk.lens _ _ _ h4;simp only[List.length_nil,Nat.zero_add,Int.zero_add] at m1 m2 m3 m4 m5;obtain⟨⟨n1,n2,n3,n4,-,hl⟩,hb⟩:=checkS_laid h3;obtain⟨B,hB,b0,b2,b3,b5⟩:=hl.tab;unfold zI at h4;have hs:=makeL_sum (B:=B) hl.names hl.ok ds t.regs _ p (fun _ h=>h) (by rw[<- hB];exact h4);simp only[List.length_nil] at hs;obtain⟨s1,s2,s3,s4⟩:=hs;have hst:WX p 0=n3:=by unfold WX;rw[s1,s2,s3,hl.e3,hl.e2,hl.e1];simp
 have hn4:n4=WX p 0+p.threads.length:=by rw[hst,hl.e4,s4];simp
 have hle:=hl.le;have hfew:p.threads.length<=40/\0<=WX p 0/\WX p 0<=400:=by
  refine⟨by omega,by omega,?_⟩;unfold WX;omega
 have key:∀ th∈p.threads,∀ x∈th.code,0<=x.base/\0<=x.len/\x.len<=8/\x.base+x.len<=n4/\(x.kind=11->n3<=x.base):=by
  intro th hth x hx;rcases Qvz _ _ _ h4 th hth with h|⟨d,regs,hd,h5,hc,-⟩
  ·cases h
  ·obtain⟨r,hr⟩:=hb d hd h5;rw[hc] at hx;rcases insL_P _ _ _ hr regs 0 x hx with⟨e1,e2,e3⟩|⟨s,y,hy,e1,e2,e3,e4⟩
   ·refine⟨by omega,by omega,by omega,by omega,fun e=>?_⟩;rw[e] at e3;exact absurd e3 (by decide)
   ·rw[hB] at hy;obtain⟨d',hd',hn,rfl⟩:=tabB_lookup hy;have ho:=objN_range (hl.ok d' hd');subst hn;simp only at e1 e2 e4;have hw:Sp.uw x.kind x.indexed=0∨Sp.uw x.kind x.indexed=1∨Sp.uw x.kind x.indexed=2∨Sp.uw x.kind x.indexed=3∨Sp.uw x.kind x.indexed=5:=by
     unfold Sp.uw;split
     ·split<;>simp
     ·split
      ·simp
      ·split<;>simp
    have h11:x.kind=11->Sp.uw x.kind x.indexed=5:=fun e=>by rw[e]<;>rfl
    rcases hw with hw|hw|hw|hw|hw
    ·have:=b0 d' hd' (.inl (e4.trans hw));exact⟨by omega,by omega,by omega,by omega,fun e=>by have:=h11 e;omega⟩
    ·have:=b0 d' hd' (.inr (e4.trans hw));exact⟨by omega,by omega,by omega,by omega,fun e=>by have:=h11 e;omega⟩
    ·have:=b2 d' hd' (e4.trans hw);exact⟨by omega,by omega,by omega,by omega,fun e=>by have:=h11 e;omega⟩
    ·have:=b3 d' hd' (e4.trans hw);exact⟨by omega,by omega,by omega,by omega,fun e=>by have:=h11 e;omega⟩
    ·have:=b5 d' hd' (e4.trans hw);exact⟨by omega,by omega,by omega,by omega,fun e=>by omega⟩
 have hsm:PgSmall p:=⟨by omega,by omega,by omega,by omega⟩
 refine⟨⟨hsm,fun th h=>(hth th h).1,fun th h x hx=>?_⟩,fun th h=>(hth th h).2,fun th h x hx=>?_,fun th h x hx e=>?_,hfew⟩
 ·have:=key th h x hx;exact⟨by omega,by omega⟩
 ·have:=key th h x hx;omega
 ·have:=key th h x hx;rw[hst];exact this.2.2.2.2 e
theorem mem_reachL {c:List Ins} {pc:Int} {i:Nat}:i∈Xz c pc↔i<c.length/\Rch c pc i:=by
 obtain⟨h1,h2⟩:=zD c pc;unfold Xz trues;rw[List.mem_filter,List.mem_range,h1,h2]
theorem ofMarks_len {p:Pg} (hp:PgOk p) {t:Nat} {th:Th} (ht:p.threads[t]? = some th) (pc:Int):(VK p t th.code pc).length<=1000000:=by
 have htm:=List.mem_of_getElem? ht;have hc:=hp.code th htm;obtain⟨h1,h2⟩:=wQ (c:=th.code) (pc:=pc);have:=yb (F:=fun i=>XT (th.code.getD i default)) (B:=8) (Xz th.code pc) fun i hi=>by
  have hil:=h1 i hi;have hx:th.code.getD i default∈th.code:=by rw[List.getD_eq_getElem?_getD,List.getElem?_eq_getElem hil];exact List.getElem_mem hil
  exact yT _ (hp.ins th htm _ hx)
 unfold VK;rw[List.length_cons];omega
def touchB (o:Int) (x:Ins):Bool:=decide (1<=x.kind)&&decide (x.kind<=12)&&decide (x.base<=o)&&decide (o<x.base+x.len)
def touchW (o:Int) (x:Ins):Bool:=touchB o x&&(x.kind != 1&&x.kind != 12)
def anyX (f:Ins->Bool) (c:List Ins) (R:List Nat):Bool:=R.any fun i=>f (c.getD i default)
theorem anyX_take {f:Ins->Bool} {c:List Ins} {R:List Nat} {k i:Nat} {x:Ins} (hi:R[k]? = some i) (hx:c[i]? = some x):anyX f c (R.take (k+1))=(anyX f c (R.take k)||f x):=by
 have:c.getD i default=x:=by rw[List.getD_eq_getElem?_getD,hx]<;>rfl
 unfold anyX;rw[List.take_succ,hi];simp[hx]
theorem Touches_ok (p:Pg) (hm:Made p) (t:Nat) (th:Th) (ht:p.threads[t]? = some th) (pc o:Int) (ho:0<=o/\o<=1000000):
 Ql TC 17 [Yw p,.int .i64 t,.int .i64 pc,.int .i64 o] (.tup [.bool (decide (o=WX p t)||anyX (touchB o) th.code (Xz th.code pc)),.bool (decide (o=WX p t)||anyX (touchW o) th.code (Xz th.code pc))]):=by
 have htl:t<p.threads.length:=(gS ht).1;have hte:=(gS ht).2;have htm:=List.mem_of_getElem? ht;have hpt:=hm.few.1;have hst:=yq p hm.ok.small t ⟨by omega,by omega⟩;have hcl:=hm.ok.code th htm;have hrc:=LReach_ok th.code pc (by omega) (hm.Jc th htm);rw[QUz (hm.Jc th htm)] at hrc;have hins:=hm.ok.ins _ htm;obtain⟨code,regs⟩:=th;have hcl:code.length<=200:=hcl;have hins:∀ x∈code,InsOk x:=hins;simp only at hrc;rw[Yw] at hst;refine ent Tryz.func17 fun L K hL hR hN hP=>?_;have t0:(0:Int)<=t:=by omega
 have t1:(t:Int)<p.threads.length:=by omega
 simp[Yw];refine Qc hst ?_;obtain⟨hRm,hRl⟩:=wQ (c:=code) (pc:=pc);obtain⟨R,hR0⟩:∃ R,Xz code pc=R:=⟨_,rfl⟩
 rw[hR0] at hRm hRl hrc;rw[hR0] at hR;rcases hs:decide (o=WX p t)
 all_goals
  have hs2:(o == WX p t)=decide (o=WX p t):=rfl;simp[hs,hs2,t0,htl,hte,XA];refine Qc hrc ?_;simp[encNs];refine QB (α:=Nat) (fun k=>k<=R.length) (fun k=>[(1,.int .i64 t),(3,.int .i64 o),(4,.ptr (L,0) 0),(8,.bool (decide (o=WX p t)||anyX (touchB o) code (R.take k))),(9,.bool (decide (o=WX p t)||anyX (touchW o) code (R.take k))),(25,.slice (R.map fun (n:Nat)=>V.int .i64 (n:Int))),(26,.int .i64 R.length),(27,.int .i64 (k:Int))])
   (fun _=>[((L,0),.cells 35 [.slice (p.threads.map XA),.slice (p.cells.map Qu),.int .i64 p.mutexes,.slice (p.sems.map fun n=>.int .i64 n),.int .i64 p.budget])]) (fun k=>R.length - k) 0 (by simp) (Qb (by simp[hs,anyX]) (by simp) (by simp)) ?_
  rintro k L1 K1 hk hL1 - hnext hex hrt - -;obtain⟨hLL,m4,m5⟩:=llu L hL1;simp;refine Qv.mk (fun hb=>?_) fun hb=>?_
  ·have hkl:k<R.length:=by simp at hb;omega
   have w1:=wr2 k;obtain⟨e1,e2⟩:=il hkl;obtain⟨i,hi⟩:=gE hkl;have hie:=(gS hi).2;have hil:=hRm i (List.mem_of_getElem? hi);obtain⟨x,hx⟩:=gE hil;have hxe:=(gS hx).2;have hxo:=hins x (List.mem_of_getElem? hx);have i1:(0:Int)<=(i:Int):=by omega
   have i2:(i:Int)<code.length:=by omega
   have hB:=anyX_take (f:=touchB o) hi hx;have hW:=anyX_take (f:=touchW o) hi hx;obtain⟨b0,b1⟩:=hxo.base;obtain⟨l0,l1⟩:=hxo.len;have hw3:IntKind.i64.wrap (x.base+x.len)=x.base+x.len:=wrap_i64 (by omega) (by omega);have htB:touchB o x=(decide (1<=x.kind)&&decide (x.kind<=12)&&decide (x.base<=o)&&decide (o<x.base+x.len)):=rfl;have htW:touchW o x=(touchB o x&&(x.kind != 1&&x.kind != 12)):=rfl;obtain⟨kind,reg,base,len,ix,xs,to⟩:=x;simp only at hw3 htB htW b0 b1 l0 l1;obtain⟨A,hA⟩:∃ A,(decide (o=WX p t)||anyX (touchB o) code (R.take k))=A:=⟨_,rfl⟩
   obtain⟨W,hW0⟩:∃ W,(decide (o=WX p t)||anyX (touchW o) code (R.take k))=W:=⟨_,rfl⟩
   have hB2:(decide (o=WX p t)||anyX (touchB o) code (R.take (k+1)))=(A||touchB o ⟨kind,reg,base,len,ix,xs,to⟩):=by rw[hB,<- Bool.or_assoc,hA]
   have hW2:(decide (o=WX p t)||anyX (touchW o) code (R.take (k+1)))=(W||touchW o ⟨kind,reg,base,len,ix,xs,to⟩):=by rw[hW,<- Bool.or_assoc,hW0]
   rw[hA,hW0];rw[htB] at hB2;rw[htW,htB] at hW2;clear hB hW htB htW hA hW0;by_cases c1:(1:Int)<=kind
   rotate_left
   ·replace hB2:=hB2.trans (show _=A by simp[c1]);replace hW2:=hW2.trans (show _=W by simp[c1]);simp[e1,hkl,hie,i1,hil,hxe,QM,t0,htl,hte,XA,c1,w1];exact hnext _ (k+1) (by omega) (by omega) (Qb (by simp[hB2,hW2]) (by simp) (by simp[m4]))
   by_cases c2:kind<=12
   rotate_left
   ·replace hB2:=hB2.trans (show _=A by simp[c1,c2]);replace hW2:=hW2.trans (show _=W by simp[c1,c2]);simp[e1,hkl,hie,i1,hil,hxe,QM,t0,htl,hte,XA,c1,c2,w1];exact hnext _ (k+1) (by omega) (by omega) (Qb (by simp[hB2,hW2]) (by simp) (by simp[m4]))
   by_cases c3:base<=o
   rotate_left
   ·replace hB2:=hB2.trans (show _=A by simp[c1,c2,c3]);replace hW2:=hW2.trans (show _=W by simp[c1,c2,c3]);simp[e1,hkl,hie,i1,hil,hxe,QM,t0,htl,hte,XA,c1,c2,c3,w1];exact hnext _ (k+1) (by omega) (by omega) (Qb (by simp[hB2,hW2]) (by simp) (by simp[m4]))
   by_cases c4:o<base+len
   rotate_left
   ·replace hB2:=hB2.trans (show _=A by simp[c1,c2,c3,c4]);replace hW2:=hW2.trans (show _=W by simp[c1,c2,c3,c4]);simp[e1,hkl,hie,i1,hil,hxe,QM,t0,htl,hte,XA,hw3,c1,c2,c3,c4,w1];exact hnext _ (k+1) (by omega) (by omega) (Qb (by simp[hB2,hW2]) (by simp) (by simp[m4]))
   replace hB2:=hB2.trans (show _=true by simp[c1,c2,c3,c4]);rcases hk1:(kind != 1)<;>rcases hk12:(kind != 12)<;>rcases hWc:W
   all_goals
    replace hW2:=hW2.trans (show _=(W||((kind != 1)&&(kind != 12))) by simp[c1,c2,c3,c4]);rw[hk1,hk12,hWc] at hW2;simp only[Bool.or_false,Bool.or_true,Bool.and_true,Bool.and_false,Bool.and_self,Bool.or_self] at hW2;simp[e1,hkl,hie,i1,hil,hxe,QM,t0,htl,hte,XA,hw3,c1,c2,c3,c4,w1,hk1,hk12];exact hnext _ (k+1) (by omega) (by omega) (Qb (by simp[hB2,hW2]) (by simp) (by simp[m4]))
  ·have hkl:k=R.length:=by simp at hb;omega
   subst hkl;rw[List.take_length];simp;refine hex _ _ ?_;simp;refine hR _ (.pures rfl (by simp) ?_);exact .refl _
end Go.Awp.R3
