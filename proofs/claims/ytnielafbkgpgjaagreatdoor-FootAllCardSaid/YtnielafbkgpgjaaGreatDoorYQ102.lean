/- A small program that came in as an argument. -/
import Derived.Test.YtnielafbkgpgjaaGreatDoorYQ101
import Derived.Test.YtnielafbkgpgjaaGreatDoorX41
import Derived.Test.YtnielafbkgpgjaaGreatDoorX38
set_option linter.all false
set_option maxRecDepth 100000
set_option maxHeartbeats 8000000
namespace Go.Awp.R3
open Go.Awp.R1 Go Go.Awp Go.Proofs Go.Awp.Sp Go.Awp.B
theorem u8w {n:Int} (h:(Lit.int .u8 n).wf=true):0<=n/\n<256:=by
 have:0<=n/\n<=255:=by simpa[Lit.wf,IntKind.min,IntKind.max,IntKind.signed,IntKind.bits] using h
 omega
theorem i8w {n:Int} (h:(Lit.int .i8 n).wf=true):-128<=n/\n<128:=by
 have:-128<=n/\n<=127:=by simpa[Lit.wf,IntKind.min,IntKind.max,IntKind.signed,IntKind.bits] using h
 omega
theorem sm_arg {H:Type} {enc:TypeId × Value->H} {w:World} {base:Nat} {spare:Nat->Bool} {held:Bool} {v:Value} {q:DataW H} {ps:List MemPlace}
 (ht:DataW.Trod enc Tryz.prog w base spare held 25 v q ps) (hv:∃ cs,v = .agg cs):
 ∃ x:Sm,Rep (Amb.start w) (Zj x) v/\Rng x:=by
 obtain⟨xs,h1,h2⟩:=QOz (d:=7) Tryz.underlying25 (by kernel_rfl) ht hv;obtain⟨a1,b1,rfl,-,s1,a2,b2,rfl,-,s2,a3,b3,rfl,-,s3,a4,b4,rfl,-,s4,a5,b5,rfl,-,s5,a6,b6,rfl,-,s6,a7,b7,rfl,-,s7,rfl⟩:=h2;unfold Sh at s1 s2 s3 s4 s5 s6 s7;rw[Tryz.underlying5] at s1 s2 s3 s4 s5;rw[Tryz.underlying22] at s6;rw[Tryz.underlying23] at s7;obtain⟨n1,rfl,r1⟩:=s1;obtain⟨n2,rfl,r2⟩:=s2;obtain⟨n3,rfl,r3⟩:=s3;obtain⟨n4,rfl,r4⟩:=s4;obtain⟨n5,rfl,r5⟩:=s5;obtain⟨n6,rfl,r6⟩:=s6;obtain⟨css,rfl,_,hcs⟩:=s7;have key:∀ cs∈css,∃ l:List SS,cs=[V.slice (l.map XH)]/\∀ s∈l,s.Ok:=by
  intro cs hc;have h4:=hcs cs hc;unfold Sh at h4;rw[Tryz.underlying73] at h4;obtain⟨dss,rfl,_,hds⟩:=h4;have key2:∀ ds∈dss,∃ s:SS,ds=(XH s).cells/\s.Ok:=by
   intro ds hd;have h5:=hds ds hd;unfold Sh at h5;rw[Tryz.underlying166] at h5;obtain⟨a1,b1,rfl,-,s1,a2,b2,rfl,-,s2,a3,b3,rfl,-,s3,a4,b4,rfl,-,s4,a5,b5,rfl,-,s5,rfl⟩:=h5;unfold Sh at s1 s2 s3 s4 s5;rw[Tryz.underlying5] at s1 s2 s3 s4;rw[Tryz.underlying22] at s5;obtain⟨n1,rfl,r1⟩:=s1;obtain⟨n2,rfl,r2⟩:=s2;obtain⟨n3,rfl,r3⟩:=s3;obtain⟨n4,rfl,r4⟩:=s4;obtain⟨n5,rfl,r5⟩:=s5;exact⟨⟨n1,n2,n3,n4,n5⟩,rfl,⟨u8w r1,u8w r2,u8w r3,u8w r4,i8w r5⟩⟩
  obtain⟨l,rfl,hl⟩:=vA key2;refine⟨l,?_,hl⟩;congr 2;rw[List.map_map];apply List.map_congr_left;intro s _;simp only[Function.comp];unfold vOf;rw[Tryz.underlying166]<;>rfl
 obtain⟨ls,rfl,hls⟩:=vA key;refine⟨⟨n1,n2,n3,n4,n5,n6,ls⟩,?_,⟨u8w r1,u8w r2,u8w r3,u8w r4,u8w r5,i8w r6,fun l hl s hs=>hls l hl s hs⟩⟩;have e:(ls.map fun l:List SS=>[V.slice (l.map XH)]).map (vOf Tryz.prog 73)=ls.map fun l=>V.slice (l.map XH):=by
  rw[List.map_map];apply List.map_congr_left;intro s _;simp only[Function.comp];unfold vOf;rw[Tryz.underlying73]<;>rfl
 rw[e] at h1;exact h1
mutual
def allS:St->List St
 | .mk k reg name ix xs body els pl=>.mk k reg name ix xs body els pl::(allL body++allL els)
def allL:List St->List St
 | []=>[]
 | s::r=>allS s++allL r
end
theorem allL_app (a b:List St):allL (a++b)=allL a++allL b:=by
 induction a with
 | nil=>rfl
 | cons s r ih=>rw[List.cons_append,allL,allL,ih,List.append_assoc]
mutual
theorem allS_len:∀ s:St,(allS s).length=cntS s
 | .mk k reg name ix xs body els pl=>by
   rw[allS,cntS,List.length_cons,List.length_append,allL_len body,allL_len els];omega
theorem allL_len:∀ l:List St,(allL l).length=cntL l
 | []=>rfl
 | s::r=>by rw[allL,cntL,List.length_append,allS_len s,allL_len r]
end
theorem okSt_cnt {n:Nat} {s:St} {l:List St} (h:s∈l):cntL s.body<=cntL l/\cntL s.els<=cntL l:=by
 induction l with
 | nil=>cases h
 | cons a r ih=>
   rw[cntL];rcases List.mem_cons.1 h with rfl|h
   ·obtain⟨k,reg,name,ix,xs,body,els,pl⟩:=s;rw[cntS];simp only[St.body,St.els];omega
   ·have:=ih h;omega
theorem st8 (l:List St):∀ x,x∈Qr l->x.cells.length=8:=fun x hx=>by
 rw[WG] at hx;obtain⟨⟨_,_,_,_,_,_,_,_⟩,-,rfl⟩:=List.mem_map.1 hx;rfl
theorem encStL_app (a b:List St):Qr (a++b)=Qr a++Qr b:=by rw[WG,WG,WG,List.map_append]
theorem all_ok:∀ (n:Nat) (l:List St),okB n l->cntL l<=1000000->Ql TC 15 [.slice (Qr l)] (.slice (Qr (allL l)))
 | n,l,hn,hc=>by
   have hll:=hn.1;refine ADet.down (ex:=[5]) ?_;have ih:∀ n' < n,∀ b,okB n' b->cntL b<=1000000->Ql (TCe [5]) 15 [.slice (Qr b)] (.slice (Qr (allL b))):=fun n' _ b h1 h2=>Ql.up (ex:=[5]) (all_ok n' b h1 h2);refine ent Tryz.func15 fun L K hL hR hN hP=>?_;have hel:(Qr l).length=l.length:=by rw[WG,List.length_map]
   simp -implicitDefEqProofs [hel];refine Qw (WM (t:=3) (el:=56) (sz:=8) (by simp -implicitDefEqProofs) (by decide)) ?_;refine QB (α:=Nat) (fun k=>k<=l.length) (fun k=>[(3,.vec (L,0) (3*k)),(6,.slice (Qr l)),(7,.int .i64 l.length),(8,.int .i64 (k:Int))]) (fun k=>[((L,0),.vec 56 8 (Qr (allL (l.take k))) (3*k) true)]) (fun k=>l.length - k) 0 (by simp -implicitDefEqProofs) (Qb (by simp -implicitDefEqProofs [allL]) (by simp -implicitDefEqProofs [allL,Qr]) (by simp -implicitDefEqProofs)) ?_;rintro k L1 K1 hk hL1 - hnext hex hrt - -;obtain⟨hLL,m4,m5⟩:=llu L hL1;simp -implicitDefEqProofs;refine Qv.mk (fun hb=>?_) fun hb=>?_
   ·have hkl:k<l.length:=by simp -implicitDefEqProofs at hb;omega
    have w1:=wr2 k;obtain⟨e1,e2⟩:=il hkl;obtain⟨s,hs⟩:=gE hkl;have hse:=(gS hs).2;have hsm:=List.mem_of_getElem? hs;have htk:allL (l.take (k+1))=allL (l.take k)++allS s:=by rw[List.take_succ,hs,allL_app];simp -implicitDefEqProofs [allL]
    have hle:(allL (l.take (k+1))).length<=cntL l:=by
     have:=congrArg List.length (allL_app (l.take (k+1)) (l.drop (k+1)));rw[List.take_append_drop,List.length_append,allL_len] at this;omega
    have hes:(Qr l)[k]? = some (We s):=by rw[WG,List.getElem?_map,hs]<;>rfl
    have hes2:=(gS hes).2;have hks:k<(Qr l).length:=by omega
    obtain⟨cb,ce⟩:=okSt_cnt (n:=n) hsm;obtain⟨kd,reg,name,ix,xs,body,els,pl⟩:=s;have hok:=hn.2 _ hsm;cases n with
    | zero=>exact hok.elim
    | succ n=>
      obtain⟨-,-,ob,oe,ob2,oe2⟩:=hok;have hb1:=ih n (by omega) body ⟨ob,ob2⟩ (by simp only[St.body] at cb;omega);have hb2:=ih n (by omega) els ⟨oe,oe2⟩ (by simp only[St.els] at ce;omega);rw[htk] at hle;obtain⟨A,hA⟩:∃ A,allL (l.take k)=A:=⟨_,rfl⟩
      rw[hA] at htk hle;rw[hA];rw[List.length_append,allS_len,cntS] at hle;simp -implicitDefEqProofs [e1,e2,hel,hks,hes,hes2,We,m4,m5];have c1:A.length<=9223372036854775806:=by omega
      refine Qw (Vg (τ':=[(3,.vec (L,0) (3*k)),(5,.rptr (.agg [.int .i64 kd,.str (bs reg),.str (bs name),.bool ix,.slice (Qm xs),.slice (Qr body),.slice (Qr els),.int .i64 pl])),(6,.slice (Qr l)),(7,.int .i64 l.length),(8,.int .i64 (k:Int))]) (σ':=[((L,0),.vec 56 8 (Qr A) (3*k) true)])
       [((L1,0),.cells 56 [.int .i64 kd,.str (bs reg),.str (bs name),.bool ix,.slice (Qm xs),.slice (Qr body),.slice (Qr els),.int .i64 pl])] [((L,0),.vec 56 8 (Qr A) (3*k) true)] ?_ ?_ ?_ ?_ ?_ ?_) ?_
      ·simp -implicitDefEqProofs;exact .cells (t:=56) (cs:=[.int .i64 kd,.str (bs reg),.str (bs name),.bool ix,.slice (Qm xs),.slice (Qr body),.slice (Qr els),.int .i64 pl]) (by simp -implicitDefEqProofs) (Qn _)
      ·simp -implicitDefEqProofs
      ·simp -implicitDefEqProofs
      ·simp -implicitDefEqProofs [Qa.keys]
      ·simp -implicitDefEqProofs [Qa.keys,m4,m5]
      ·exact .refl _
      refine wait_regionX [5,16,20] (by kernel_rfl) ?_ ?_
      ·simp -implicitDefEqProofs [Csts,rp]
      have hel2:(Qr A).length=A.length:=by rw[WG,List.length_map]
      have c2:A.length+1<=9223372036854775807:=by omega
      have c3:(A.length+1)*128<=140737488355328:=by omega
      simp -implicitDefEqProofs [m4,m5,c1,c2,c3,hel2];refine Qc hb1 ?_;have l1:(Qr (allL body)).length=(allL body).length:=by rw[WG,List.length_map]
      have l2:(Qr (allL els)).length=(allL els).length:=by rw[WG,List.length_map]
      have b1:=allL_len body;have b2:=allL_len els;have d1:A.length+1+(allL body).length<=9223372036854775807:=by omega
      have d2:(A.length+1+(allL body).length)*128<=140737488355328:=by omega
      have d3:A.length+((allL body).length+1)+(allL els).length<=9223372036854775807:=by omega
      have d4:(A.length+((allL body).length+1)+(allL els).length)*128<=140737488355328:=by omega
      have s1:=st8 (allL body);have s2:=st8 (allL els);simp only[V.cells] at s1 s2;replace s1:=eq_true s1;replace s2:=eq_true s2;simp -implicitDefEqProofs [m4,m5,l1,d1,d2,s1,hel2];refine Qc hb2 ?_;simp -implicitDefEqProofs [m4,m5,l1,l2,d3,d4,s2,hel2,w1];have h3:3*k+1+1+1=3*(k+1):=by omega
      exact hnext _ (k+1) (by omega) (by omega) (Qb (by simp -implicitDefEqProofs [h3]) (by simp -implicitDefEqProofs [htk,encStL_app,allS,h3,Qr,We]) (by simp -implicitDefEqProofs))
   ·have hkl:k=l.length:=by simp -implicitDefEqProofs at hb;omega
    subst hkl;simp -implicitDefEqProofs;refine hex _ _ ?_;simp -implicitDefEqProofs;exact hR _ (.pure rfl (.vec (t:=56) (s:=8) (wr:=true) (by simp -implicitDefEqProofs) (Qn _)))
def tabB (B:Bs->Int) (ds:List Dc):Qp:=ds.map fun d=>(WJ d,⟨d.sort,B (WJ d),objN d,d.num⟩)
def sumG (g:Int->Bool):List Dc->Int
 | []=>0
 | d::r=>(if g d.sort then objN d else 0)+sumG g r
theorem tabB_lookup {B:Bs->Int}:∀ {ds:List Dc} {w:Bs} {x:Zq},(tabB B ds).lookup w=some x->∃ d∈ds,WJ d=w/\x=⟨d.sort,B w,objN d,d.num⟩
 | [],w,x,h=>by simp[tabB] at h
 | d::r,w,x,h=>by
   unfold tabB at h;rw[List.map_cons,List.lookup_cons] at h;by_cases e:w=WJ d
   ·have:(w == WJ d)=true:=by simpa using e
    rw[this] at h;cases h;exact⟨d,by simp,e.symm,by rw[e]⟩
   ·have:(w == WJ d)=false:=by simpa using e
    rw[this] at h;obtain⟨d',h1,h2⟩:=tabB_lookup (ds:=r) h;exact⟨d',by simp[h1],h2⟩
theorem tabB_has {B:Bs->Int}:∀ {ds:List Dc},(ds.map WJ).Nodup->∀ d∈ds,(tabB B ds).lookup (WJ d)=some ⟨d.sort,B (WJ d),objN d,d.num⟩
 | [],_,d,h=>by cases h
 | d0::r,hn,d,h=>by
   rw[List.map_cons,List.nodup_cons] at hn;unfold tabB;rw[List.map_cons,List.lookup_cons];rcases List.mem_cons.1 h with rfl|h
   ·simp
   ·have:(WJ d == WJ d0)=false:=by
     rw[beq_eq_false_iff_ne];intro e;exact hn.1 (e▸List.mem_map_of_mem h)
    rw[this];exact tabB_has hn.2 d h
theorem tabB_rebase (B:Bs->Int) (ds:List Dc) (s:Bs) (b:Int):rebase (tabB B ds) s b=tabB (fun w=>if w=s then b else B w) ds:=by
 unfold rebase tabB;rw[List.map_map];apply List.map_congr_left;intro d _;simp only[Function.comp];by_cases e:WJ d=s
 ·rw[if_pos e,if_pos e]
 ·rw[if_neg e,if_neg e]
theorem placeG_tab (g:Int->Bool) (h4:g 4=false) {ds0:List Dc} (hn:(ds0.map WJ).Nodup) (hlo:∀ d∈ds0,0<=objN d):∀ (ds:List Dc) (n:Int) (B:Bs->Int),(∀ d∈ds,d∈ds0)->(ds.map WJ).Nodup->
 ∃ B',Zc g (n,tabB B ds0) ds=(n+sumG g ds,tabB B' ds0)/\(∀ d∈ds,g d.sort=true->n<=B' (WJ d)/\B' (WJ d)+objN d<=n+sumG g ds)/\(∀ w,(∀ d∈ds,g d.sort=true->WJ d≠w)->B' w=B w)/\0<=sumG g ds
 | [],n,B,_,_=>⟨B,by rw[Zc,sumG];simp,by simp,fun w _=>rfl,by simp[sumG]⟩
 | d::r,n,B,hin,hnd=>by
   rw[List.map_cons,List.nodup_cons] at hnd;have hr:∀ d∈r,d∈ds0:=fun d h=>hin d (by simp[h]);have hd0:=hin d (by simp);have hob:=hlo d hd0;by_cases hg:g d.sort=true
   ·have h4':d.sort≠4:=fun e=>by rw[e,h4] at hg;cases hg
    have hnm:WJ d=d.name:=by unfold WJ;rw[if_neg h4']
    have hlen:lenOf (tabB B ds0) d.name=objN d:=by
     unfold lenOf;rw[<- hnm,tabB_has hn d hd0]<;>rfl
    obtain⟨B',h1,h2,h3,h5⟩:=placeG_tab g h4 hn hlo r (n+objN d) (fun w=>if w=d.name then n else B w) hr hnd.2;have hBd:B' (WJ d)=n:=by
     rw[h3 (WJ d) fun d' hd' _ e=>hnd.1 (e▸List.mem_map_of_mem hd'),hnm,if_pos rfl]
    refine⟨B',?_,?_,?_,?_⟩
    ·rw[Zc,if_pos hg,hlen,tabB_rebase,h1,sumG,if_pos hg];congr 1;omega
    ·intro d' hd' hg';rw[sumG,if_pos hg];rcases List.mem_cons.1 hd' with rfl|hd'
     ·rw[hBd];omega
     ·have:=h2 d' hd' hg';omega
    ·intro w hw;rw[h3 w fun d' hd'=>hw d' (by simp[hd']),if_neg];exact fun e=>hw d (by simp) hg (by rw[hnm,e])
    ·rw[sumG,if_pos hg];omega
   ·obtain⟨B',h1,h2,h3,h5⟩:=placeG_tab g h4 hn hlo r n B hr hnd.2;refine⟨B',?_,?_,?_,?_⟩
    ·rw[Zc,if_neg hg,h1,sumG,if_neg hg,Int.zero_add]
    ·intro d' hd' hg';rw[sumG,if_neg hg,Int.zero_add];rcases List.mem_cons.1 hd' with rfl|hd'
     ·exact absurd hg' hg
     ·exact h2 d' hd' hg'
    ·intro w hw;exact h3 w fun d' hd'=>hw d' (by simp[hd'])
    ·rw[sumG,if_neg hg];omega
theorem declareL_things:∀ (ds seen:List Dc) (t t':Decls),(∀ d∈seen,objB d=true)->(seen.map WJ).Nodup->t.things=tabB (fun _=>0) seen->Xr t ds = .ok t'->
 t'.things=tabB (fun _=>0) (seen++ds)/\((seen++ds).map WJ).Nodup/\∀ d∈seen++ds,objB d=true
 | [],seen,t,t',hs,hn,ht,h=>by rw[Xr] at h;cases h;simp[ht,hn];simpa using hs
 | d::r,seen,t,t',hs,hn,ht,h=>by
   rw[Xr] at h;split at h
   ·cases h
   ·rename_i t1 h1;cases hB:Wo t d with
    | error e=>rw[(UA hB).1] at h1;cases h1
    | ok t2=>
      obtain⟨hl,hb,e2,h2,-⟩:=Uz hB;rw[h1] at h2;cases h2;have hs':∀ x∈seen++[d],objB x=true:=fun x hx=>by
       rcases List.mem_append.1 hx with hx|hx
       ·exact hs x hx
       ·rw[List.mem_singleton] at hx;subst hx;exact hb
      have hn':((seen++[d]).map WJ).Nodup:=by
       rw[List.map_append,List.nodup_append];refine⟨hn,by simp,fun a ha b hb e=>?_⟩;simp at hb;subst hb;subst e;obtain⟨x,hx,hxe⟩:=List.mem_map.1 ha;rw[ht,<- hxe,tabB_has hn x hx] at hl;cases hl
      have:=declareL_things r (seen++[d]) _ t' hs' hn' (by show t2.things=_;rw[e2];simp[tabB,ht]) h;simpa using this
theorem objN_range {d:Dc} (h:objB d=true):0<=objN d/\objN d<=8:=objN_le d h
structure Laid (ts:Qp) (ds:List Dc) (n1 n2 n3 n4:Int):Prop where
 tab:∃ B,ts=tabB B ds/\(∀ d∈ds,(d.sort=0∨d.sort=1)->0<=B (WJ d)/\B (WJ d)+objN d<=n1)/\(∀ d∈ds,d.sort=2->n1<=B (WJ d)/\B (WJ d)+objN d<=n2)/\(∀ d∈ds,d.sort=3->n2<=B (WJ d)/\B (WJ d)+objN d<=n3)/\(∀ d∈ds,d.sort=5->n3<=B (WJ d)/\B (WJ d)+objN d<=n4)
 names:(ds.map WJ).Nodup
 ok:∀ d∈ds,objB d=true
 e1:n1=sumG (fun s=>s == 0||s == 1) ds
 e2:n2=n1+sumG (fun s=>s == 2) ds
 e3:n3=n2+sumG (fun s=>s == 3) ds
 e4:n4=n3+sumG (fun s=>s == 5) ds
 le:0<=n1/\n1<=n2/\n2<=n3/\n3<=n4
theorem placeAll_laid {ds:List Dc} (hn:(ds.map WJ).Nodup) (hok:∀ d∈ds,objB d=true):∃ n1 n2 n3 n4,(Xq (tabB (fun _=>0) ds) ds).1=n3/\Laid (Xq (tabB (fun _=>0) ds) ds).2.1 ds n1 n2 n3 n4:=by
 have hlo:∀ d∈ds,0<=objN d:=fun d hd=>(objN_range (hok d hd)).1;obtain⟨B1,a1,a2,a3,a4⟩:=placeG_tab (fun s=>s == 0||s == 1) rfl hn hlo ds 0 (fun _=>0) (fun _ h=>h) hn;rw[Int.zero_add] at a1;simp only[Int.zero_add] at a2;obtain⟨B2,b1,b2,b3,b4⟩:=placeG_tab (fun s=>s == 2) rfl hn hlo ds (sumG (fun s=>s == 0||s == 1) ds) B1 (fun _ h=>h) hn;obtain⟨B3,c1,c2,c3,c4⟩:=placeG_tab (fun s=>s == 3) rfl hn hlo ds (sumG (fun s=>s == 0||s == 1) ds+sumG (fun s=>s == 2) ds) B2 (fun _ h=>h) hn;obtain⟨B4,d1,d2,d3,d4⟩:=placeG_tab (fun s=>s == 5) rfl hn hlo ds (sumG (fun s=>s == 0||s == 1) ds+sumG (fun s=>s == 2) ds+sumG (fun s=>s == 3) ds) B3 (fun _ h=>h) hn;have inj:∀ {x y:Dc},x∈ds->y∈ds->WJ x=WJ y->x=y:=fun {x y} hx hy e=>by
  have h1:=tabB_has (B:=fun _=>0) hn x hx;have:∀ (l:List Dc),(l.map WJ).Nodup->x∈l->y∈l->x=y:=fun l=>by
   induction l with
   | nil=>intro _ h;cases h
   | cons z r ih=>
     intro hn hx hy;rw[List.map_cons,List.nodup_cons] at hn;rcases List.mem_cons.1 hx with h1|h1
     ·rcases List.mem_cons.1 hy with h2|h2
      ·rw[h1,h2]
      ·exact absurd (h1▸e▸List.mem_map_of_mem h2) hn.1
     ·rcases List.mem_cons.1 hy with h2|h2
      ·exact absurd (h2▸e▸List.mem_map_of_mem h1) hn.1
      ·exact ih hn.2 h1 h2
  exact this ds hn hx hy
 have keep:∀ (g:Int->Bool) {B B':Bs->Int},(∀ w,(∀ d∈ds,g d.sort=true->WJ d≠w)->B' w=B w)->∀ d∈ds,g d.sort=false->B' (WJ d)=B (WJ d):=fun g B B' h d hd hg=>
  h _ fun d' hd' hg' e=>by rw[inj hd' hd e,hg] at hg';cases hg'
 refine⟨sumG (fun s=>s == 0||s == 1) ds,_,_,_,?_,⟨⟨B4,?_,?_,?_,?_,?_⟩,hn,hok,rfl,rfl,rfl,rfl,by omega⟩⟩
 ·unfold Xq;simp only[a1,b1,c1]
 ·unfold Xq;simp only[a1,b1,c1,d1]
 ·intro d hd hs;have hs':(d.sort == 0||d.sort == 1)=true:=by simpa using hs
  have:=a2 d hd hs';rw[keep (fun s=>s == 5) d3 d hd (by simp;omega),keep (fun s=>s == 3) c3 d hd (by simp;omega),keep (fun s=>s == 2) b3 d hd (by simp;omega)];exact this
 ·intro d hd hs;have:=b2 d hd (by simpa using hs);rw[keep (fun s=>s == 5) d3 d hd (by simp;omega),keep (fun s=>s == 3) c3 d hd (by simp;omega)];exact this
 ·intro d hd hs;have:=c2 d hd (by simpa using hs);rw[keep (fun s=>s == 5) d3 d hd (by simp;omega)];exact this
 ·intro d hd hs;exact d2 d hd (by simpa using hs)
theorem bodiesC_mem {ts:Qp}:∀ {ds:List Dc} {l:List (List Bs)},WT ts ds = .ok l->∀ d∈ds,d.sort=5->∃ r,Wu ts [] d.body = .ok r
 | [],l,_,d,h,_=>by cases h
 | d0::r,l,h,d,hd,h5=>by
   rw[WT] at h;split at h
   ·split at h
    ·cases h
    ·rename_i regs h1;split at h
     ·cases h
     ·rename_i l' h2;rcases List.mem_cons.1 hd with rfl|hd
      ·exact⟨_,h1⟩
      ·exact bodiesC_mem h2 d hd h5
   ·rename_i hn;rcases List.mem_cons.1 hd with rfl|hd
    ·exact absurd h5 hn
    ·exact bodiesC_mem h d hd h5
theorem checkS_laid {ds:List Dc} {t:Sp.Table} (h:Ya ds = .ok t):(∃ n1 n2 n3 n4,t.first=n3/\Laid t.things ds n1 n2 n3 n4)/\∀ d∈ds,d.sort=5->∃ r,Wu t.things [] d.body = .ok r:=by
 unfold Ya at h;split at h
 ·cases h
 ·rename_i t0 h0;obtain⟨h1,h2,h3⟩:=declareL_things ds [] _ _ (by simp) (by simp) rfl h0;simp only[List.nil_append] at h1 h2 h3;split at h
  ·cases h
  ·simp only at h;split at h
   ·cases h
   ·rename_i regs hb;cases h;obtain⟨n1,n2,n3,n4,e,hl⟩:=placeAll_laid h2 h3;rw[<- h1] at e hl;exact⟨⟨n1,n2,n3,n4,e,hl⟩,bodiesC_mem hb⟩
def InsP (ts:Qp) (x:Ins):Prop:=(x.base=0/\x.len=0/\Qz x.kind=false)∨∃ s y,ts.lookup s=some y/\x.base=y.base/\x.len=y.len/\Qz x.kind=true/\y.sort=uw x.kind x.indexed
theorem plainI_P {ts:Qp} {s:St} (regs:List Bs) (h:Yb ts s=0):InsP ts (wR ts regs s):=by
 unfold Yb at h;unfold wR;cases hn:Qz s.kind with
 | false=>exact .inl ⟨by simp,by simp,hn⟩
 | true=>
   rw[hn] at h;simp only[if_true] at h;cases hl:ts.lookup s.name with
   | none=>rw[hl] at h;simp[wv] at h
   | some y=>
     rw[hl] at h;simp only at h;refine .inr ⟨s.name,y,hl,?_,?_,hn,?_⟩
     ·simp
     ·simp[lenOf,hl]
     ·by_cases e:y.sort=uw s.kind s.indexed
      ·exact e
      ·rw[if_neg e] at h;simp[Jh] at h
mutual
theorem insS_P {ts:Qp}:∀ (s:St) (rg r:List Bs),qM ts rg s = .ok r->∀ (regs:List Bs) (p:Nat),∀ x∈insS ts regs p s,InsP ts x
 | .mk k reg name ix xs body els pl,rg,r,h,regs,p=>by
   rw[qM] at h;split at h
   ·cases h
   ·rename_i hab;have hab:Yb ts (.mk k reg name ix xs body els pl)=0:=by
     by_cases e:Yb ts (.mk k reg name ix xs body els pl)=0
     ·exact e
     ·exact absurd e hab
    split at h
    ·cases h
    ·split at h
     ·cases h
     ·split at h
      ·cases h
      ·rename_i rg2 h2;by_cases hk:k<15
       ·rw[insS,if_pos hk];intro x hx;rw[List.mem_singleton] at hx;subst hx;exact plainI_P regs hab
       ·rw[yS hk];have h1:=insL_P body _ _ h2 regs (p+1);have h3:=fun q=>insL_P els _ _ h regs q;have hb:∀ xs to,InsP ts (WS xs to):=fun _ _=>.inl ⟨rfl,rfl,rfl⟩;have hj:∀ to,InsP ts (Vo to):=fun _=>.inl ⟨rfl,rfl,rfl⟩;simp only;split
        ·intro x hx;rcases List.mem_cons.1 hx with rfl|hx
         ·exact hb _ _
         ·rcases List.mem_append.1 hx with hx|hx
          ·exact h1 x hx
          ·rw[List.mem_singleton] at hx;subst hx;exact hj _
        ·split
         ·intro x hx;rcases List.mem_cons.1 hx with rfl|hx
          ·exact hb _ _
          ·exact h1 x hx
         ·intro x hx;rcases List.mem_cons.1 hx with rfl|hx
          ·exact hb _ _
          ·rcases List.mem_append.1 hx with hx|hx
           ·rcases List.mem_append.1 hx with hx|hx
            ·exact h1 x hx
            ·rw[List.mem_singleton] at hx;subst hx;exact hj _
           ·exact h3 _ x hx
theorem insL_P {ts:Qp}:∀ (l:List St) (rg r:List Bs),Wu ts rg l = .ok r->∀ (regs:List Bs) (p:Nat),∀ x∈insL ts regs p l,InsP ts x
 | [],rg,r,_,regs,p=>by rw[insL];intro x hx;cases hx
 | s::rest,rg,r,h,regs,p=>by
   rw[Wu] at h;split at h
   ·cases h
   ·rename_i rg2 h1;rw[insL];intro x hx;rcases List.mem_append.1 hx with hx|hx
    ·exact insS_P s _ _ h1 regs p x hx
    ·exact insL_P rest _ _ h regs _ x hx
end
theorem makeL_sum {B:Bs->Int} {ds0:List Dc} (hn:(ds0.map WJ).Nodup) (hok:∀ d∈ds0,objB d=true):∀ (ds:List Dc) (rs:List (List Bs)) (p q:Pg),(∀ d∈ds,d∈ds0)->XO (tabB B ds0) rs p ds=some q->
 (q.cells.length:Int)=p.cells.length+sumG (fun s=>s == 0||s == 1) ds/\q.mutexes=p.mutexes+sumG (fun s=>s == 2) ds/\(q.sems.length:Int)=p.sems.length+sumG (fun s=>s == 3) ds/\(q.threads.length:Int)=p.threads.length+sumG (fun s=>s == 5) ds
 | [],rs,p,q,_,h=>by rw[XO] at h;cases h;simp[sumG]
 | d::r,rs,p,q,hin,h=>by
   have ih:=fun rs p q=>makeL_sum (B:=B) hn hok r rs p q fun d hd=>hin d (by simp[hd]);have hd0:=hin d (by simp);have hob:=objN_range (hok d hd0);rw[XO] at h;simp only[sumG];split at h
   ·rename_i hs;have:=ih _ _ _ h;have ho:objN d=1:=by unfold objN;simp[hs]
    simp[hs,ho] at this ⊢;omega
   ·split at h
    ·rename_i hs;have:=ih _ _ _ h;have hnm:WJ d=d.name:=by unfold WJ;simp[hs]
     have hlen:lenOf (tabB B ds0) d.name=objN d:=by
      unfold lenOf;rw[<- hnm,tabB_has hn d hd0]<;>rfl
     rw[hlen] at this;simp[hs] at this ⊢;omega
    ·split at h
     ·rename_i hs;have:=ih _ _ _ h;have ho:objN d=1:=by unfold objN;simp[hs]
      simp[hs,ho] at this ⊢;omega
     ·split at h
      ·rename_i hs;have:=ih _ _ _ h;have ho:objN d=1:=by unfold objN;simp[hs]
       simp[hs,ho] at this ⊢;omega
      ·split at h
       ·rename_i hs;simp only at h;split at h
        ·cases h
        ·have:=ih _ _ _ h;have ho:objN d=1:=by unfold objN;simp[hs]
         simp[hs,ho] at this ⊢;omega
       ·have:=ih _ _ _ h;rename_i s0 s1 s2 s3 s5;simp[s0,s1,s2,s3,s5] at this ⊢;omega
theorem checkS_40 {ds:List Dc} {t:Sp.Table} (h:Ya ds = .ok t):ds.length<=40:=by
 unfold Ya at h;split at h
 ·cases h
 ·rename_i t0 h0;have h1:=(declareL_things ds [] _ _ (by simp) (by simp) rfl h0).1;have ht:=zS (ds0:=ds) ds [] _ _ ⟨by simp,by simp,by simp,⟨by simp[QJq],by simp,by simp⟩⟩ h0;have h2:=ht.things;rw[h1] at h2;simpa[tabB] using h2
structure Made (p:Pg):Prop where
 ok:PgOk p
 Jc:∀ th∈p.threads,∀ x∈th.code,0<=x.Jc
 ins:∀ th∈p.threads,∀ x∈th.code,0<=x.base/\0<=x.len/\x.base+x.len<=WX p 0+p.threads.length
 spawn:∀ th∈p.threads,∀ x∈th.code,x.kind=11->WX p 0<=x.base
 few:p.threads.length<=40/\0<=WX p 0/\WX p 0<=400
theorem made_of {ds:List Dc} {t:Sp.Table} {p:Pg} (hmk:MkOk t ds) (h3:Ya ds = .ok t) (h4:zI t ds=some p):Made p:=by
 have h40:=checkS_40 h3;have hth:=makeS_th h4;obtain⟨m1,m2,m3,m4,m5⟩:=ZB hmk.lens _ _ _ h4;simp only[List.length_nil,Nat.zero_add,Int.zero_add] at m1 m2 m3 m4 m5;obtain⟨⟨n1,n2,n3,n4,-,hl⟩,hb⟩:=checkS_laid h3;obtain⟨B,hB,b0,b2,b3,b5⟩:=hl.tab;unfold zI at h4;have hs:=makeL_sum (B:=B) hl.names hl.ok ds t.regs _ p (fun _ h=>h) (by rw[<- hB];exact h4);simp only[List.length_nil] at hs;obtain⟨s1,s2,s3,s4⟩:=hs;have hst:WX p 0=n3:=by unfold WX;rw[s1,s2,s3,hl.e3,hl.e2,hl.e1];simp
 have hn4:n4=WX p 0+p.threads.length:=by rw[hst,hl.e4,s4];simp
 have hle:=hl.le;have hfew:p.threads.length<=40/\0<=WX p 0/\WX p 0<=400:=by
  refine⟨by omega,by omega,?_⟩;unfold WX;omega
 have key:∀ th∈p.threads,∀ x∈th.code,0<=x.base/\0<=x.len/\x.len<=8/\x.base+x.len<=n4/\(x.kind=11->n3<=x.base):=by
  intro th hth x hx;rcases Qvz _ _ _ h4 th hth with h|⟨d,regs,hd,h5,hc,-⟩
  ·cases h
  ·obtain⟨r,hr⟩:=hb d hd h5;rw[hc] at hx;rcases insL_P _ _ _ hr regs 0 x hx with⟨e1,e2,e3⟩|⟨s,y,hy,e1,e2,e3,e4⟩
   ·refine⟨by omega,by omega,by omega,by omega,fun e=>?_⟩;rw[e] at e3;exact absurd e3 (by decide)
   ·rw[hB] at hy;obtain⟨d',hd',hn,rfl⟩:=tabB_lookup hy;have ho:=objN_range (hl.ok d' hd');subst hn;simp only at e1 e2 e4;have hw:Sp.uw x.kind x.indexed=0∨Sp.uw x.kind x.indexed=1∨Sp.uw x.kind x.indexed=2∨Sp.uw x.kind x.indexed=3∨Sp.uw x.kind x.indexed=5:=by
     unfold Sp.uw;split
     ·split<;>simp
     ·split
      ·simp
      ·split<;>simp
    have h11:x.kind=11->Sp.uw x.kind x.indexed=5:=fun e=>by rw[e]<;>rfl
    rcases hw with hw|hw|hw|hw|hw
    ·have:=b0 d' hd' (.inl (e4.trans hw));exact⟨by omega,by omega,by omega,by omega,fun e=>by have:=h11 e;omega⟩
    ·have:=b0 d' hd' (.inr (e4.trans hw));exact⟨by omega,by omega,by omega,by omega,fun e=>by have:=h11 e;omega⟩
    ·have:=b2 d' hd' (e4.trans hw);exact⟨by omega,by omega,by omega,by omega,fun e=>by have:=h11 e;omega⟩
    ·have:=b3 d' hd' (e4.trans hw);exact⟨by omega,by omega,by omega,by omega,fun e=>by have:=h11 e;omega⟩
    ·have:=b5 d' hd' (e4.trans hw);exact⟨by omega,by omega,by omega,by omega,fun e=>by omega⟩
 have hsm:PgSmall p:=⟨by omega,by omega,by omega,by omega⟩
 refine⟨⟨hsm,fun th h=>(hth th h).1,fun th h x hx=>?_⟩,fun th h=>(hth th h).2,fun th h x hx=>?_,fun th h x hx e=>?_,hfew⟩
 ·have:=key th h x hx;exact⟨by omega,by omega⟩
 ·have:=key th h x hx;omega
 ·have:=key th h x hx;rw[hst];exact this.2.2.2.2 e
theorem mem_reachL {c:List Ins} {pc:Int} {i:Nat}:i∈Xz c pc↔i<c.length/\Rch c pc i:=by
 obtain⟨h1,h2⟩:=zD c pc;unfold Xz trues;rw[List.mem_filter,List.mem_range,h1,h2]
theorem ofMarks_len {p:Pg} (hp:PgOk p) {t:Nat} {th:Th} (ht:p.threads[t]? = some th) (pc:Int):(VK p t th.code pc).length<=1000000:=by
 have htm:=List.mem_of_getElem? ht;have hc:=hp.code th htm;obtain⟨h1,h2⟩:=wQ (c:=th.code) (pc:=pc);have:=yb (F:=fun i=>XT (th.code.getD i default)) (B:=8) (Xz th.code pc) fun i hi=>by
  have hil:=h1 i hi;have hx:th.code.getD i default∈th.code:=by rw[List.getD_eq_getElem?_getD,List.getElem?_eq_getElem hil];exact List.getElem_mem hil
  exact yT _ (hp.ins th htm _ hx)
 unfold VK;rw[List.length_cons];omega
def touchB (o:Int) (x:Ins):Bool:=decide (1<=x.kind)&&decide (x.kind<=12)&&decide (x.base<=o)&&decide (o<x.base+x.len)
def anyX (f:Ins->Bool) (c:List Ins) (R:List Nat):Bool:=R.any fun i=>f (c.getD i default)
theorem mem_insMarks (x:Ins) (a:Mk):a∈XT x↔touchB a.o x=true/\a.w=(x.kind != 1&&x.kind != 12):=by
 have hn:Qz x.kind=(decide (1<=x.kind)&&decide (x.kind<=12)):=by
  unfold Qz;by_cases h1:0<x.kind<;>by_cases h2:x.kind<13<;>simp[h1,h2]<;>omega
 unfold XT touchB;rw[hn];by_cases h:(decide (1<=x.kind)&&decide (x.kind<=12))=true
 ·rw[if_pos h,h,Bool.true_and,List.mem_map];constructor
  ·rintro⟨k,hk,rfl⟩;rw[List.mem_range] at hk;refine⟨?_,rfl⟩;simp only[Bool.and_eq_true,decide_eq_true_eq];omega
  ·rintro⟨h1,h2⟩;simp only[Bool.and_eq_true,decide_eq_true_eq] at h1;refine⟨(a.o - x.base).toNat,List.mem_range.2 (by omega),?_⟩;cases a;simp only at h1 h2 ⊢;rw[h2];congr 1;omega
 ·rw[if_neg h];have:(decide (1<=x.kind)&&decide (x.kind<=12))=false:=by simpa using h
  rw[this];simp
theorem mem_ofMarks (p:Pg) (t:Nat) (c:List Ins) (pc:Int) (a:Mk):a∈VK p t c pc↔a=⟨WX p t,true⟩∨∃ i∈Xz c pc,touchB a.o (c.getD i default)=true/\a.w=((c.getD i default).kind != 1&&(c.getD i default).kind != 12):=by
 unfold VK;rw[List.mem_cons,List.mem_flatMap];simp only[mem_insMarks]
theorem of_some (p:Pg) (t:Nat) (c:List Ins) (pc o:Int):(∃ a∈VK p t c pc,a.o=o)↔(decide (o=WX p t)||anyX (touchB o) c (Xz c pc))=true:=by
 rw[Bool.or_eq_true,decide_eq_true_eq];unfold anyX;rw[List.any_eq_true];constructor
 ·rintro⟨a,ha,rfl⟩;rcases (mem_ofMarks p t c pc a).1 ha with rfl|⟨i,hi,h1,-⟩
  ·exact .inl rfl
  ·exact .inr ⟨i,hi,h1⟩
 ·rintro (rfl|⟨i,hi,h1⟩)
  ·exact⟨⟨WX p t,true⟩,(mem_ofMarks p t c pc _).2 (.inl rfl),rfl⟩
  ·exact⟨⟨o,(c.getD i default).kind != 1&&(c.getD i default).kind != 12⟩,(mem_ofMarks p t c pc _).2 (.inr ⟨i,hi,h1,rfl⟩),rfl⟩
end Go.Awp.R3
