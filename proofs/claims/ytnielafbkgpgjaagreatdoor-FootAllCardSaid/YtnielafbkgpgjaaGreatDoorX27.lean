/- Names: what the parser hands on is not too big. -/
import Derived.Test.YtnielafbkgpgjaaGreatDoorX26
set_option linter.all false
set_option maxRecDepth 100000
set_option maxHeartbeats 8000000
namespace Go.Awp.R1
open Go Go.Awp Go.Proofs Go.Awp.Sp
theorem Vk:∀ {n m:Nat} {s:St},okSt n s->n<=m->okSt m s
 | 0,_,_,h,_=>h.elim
 | n+1,0,_,_,hm=>by omega
 | n+1,m+1,.mk _ _ _ _ _ _ _ _,h,hm=>⟨h.1,h.2.1,h.2.2.1,h.2.2.2.1,fun s hs=>Vk (h.2.2.2.2.1 s hs) (by omega),fun s hs=>Vk (h.2.2.2.2.2 s hs) (by omega)⟩
theorem okB_mono {n m:Nat} {l:List St} (h:okB n l) (hm:n<=m):okB m l:=⟨h.1,fun s hs=>Vk (h.2 s hs) hm⟩
theorem js {f:Nat}:∀ (n:Nat) (comma:Bool) (l l2:List Tok) (es:List Ex),TokL l->wholes f comma n l = .ok (es,l2)->∀ e∈es,okE 13 e
 | 0,comma,l,l2,es,hl,h,e,he=>by
   rw[wholes] at h;cases h;cases he
 | n+1,comma,l,l2,es,hl,h,e,he=>by
   rw[wholes] at h;split at h
   ·cases h
   ·rename_i u l1 h1;have k1:TokL l1:=by
     cases comma with
     | true=>exact Jp hl (by simpa using h1)
     | false=>simp at h1;rw[<- h1];exact hl
    split at h
    ·cases h
    ·rename_i x l3 h3;obtain⟨k3,ho⟩:=Xp k1 h3;split at h
     ·cases h
     ·rename_i xs l4 h4;cases h;rcases List.mem_cons.1 he with rfl|he
      ·exact ho
      ·exact js n true _ _ _ k3.1 h4 e he
theorem Qnz {f k:Nat} {l l2:List Tok} {n:Bs} {ix:Bool} {xs:List Ex} (hl:TokL l) (h:WK f k l = .ok ((n,ix,xs),l2)):∀ e∈xs,okE 13 e:=fun e he=>by
 unfold WK at h;split at h
 ·split at h
  ·cases h
  ·rename_i name l1 h1;have k1:=Wp hl h1;split at h
   ·rename_i hc;have hb:(hd l1).isB [91]=true:=by revert hc;cases Xt (k:Int)<;>simp
    split at h
    ·cases h
    ·rename_i x l3 h3;have k2:=Left.tail k1.1 (QC hb);split at h
     ·cases h
     ·cases h;simp at he;subst he;exact (Xp k2.1 h3).2
   ·cases h;cases he
 ·cases h;cases he
theorem headS_okE {f:Nat} {l l2:List Tok} {k:Int} {reg name:Bs} {ix:Bool} {xs:List Ex} (hl:TokL l) (h:Ut f l = .ok ((k,reg,name,ix,xs),l2)):xs.length<=100/\∀ e∈xs,okE 13 e:=by
 rw[Zi] at h;split at h
 ·cases h
 ·rename_i k1 reg1 l1 h1;have t1:=(ZR hl h1).1;split at h
  ·cases h
  ·rename_i n1 ix1 xs1 l3 h3;have t3:=(Za t1 h3).1;split at h
   ·cases h
   ·rename_i ys l4 h4;cases h;have hl1:=zB h3;have hl2:=(Ue _ _ _ _ _ t3 h4).2;have hk:=wN (k1:Int);refine⟨by rw[List.length_append];omega,fun e he=>?_⟩;rcases List.mem_append.1 he with he|he
    ·exact Qnz t1 h3 e he
    ·exact js _ _ _ _ _ t3 h4 e he
theorem st_okB:∀ f,(∀ d l b l2,TokL l->l.length<=1000000->QT f d l = .ok (b,l2)->okB f b)/\(∀ d l b l2,TokL l->l.length<=1000000->Xw f d l = .ok (b,l2)->okB f b)/\(∀ d l s l2,TokL l->l.length<=1000000->Xl f d l = .ok (s,l2)->okSt f s)
 | 0=>⟨fun d l b l2 _ _ h=>(by rw[QT] at h;cases h),fun d l b l2 _ _ h=>(by rw[Xw] at h;cases h),fun d l b l2 _ _ h=>(by rw[Xl] at h;cases h)⟩
 | f+1=>by
   obtain⟨ihb,ihr,ihs⟩:=st_okB f;refine⟨fun d l b l2 hl hn h=>?_,fun d l b l2 hl hn h=>?_,fun d l s l2 hl hn h=>?_⟩
   ·rw[QT] at h;split at h
    ·cases h
    ·rename_i u r h1;have k1:=Wq hl h1;split at h
     ·cases h
     ·exact okB_mono (ihr _ _ _ _ k1.1 (by have:=k1.2;omega) h) (by omega)
   ·have hlen:=(Yc (f+1)).2.1 _ _ _ _ hl h;have hlb:b.length<=1000000:=by have:=hlen.2;omega
    rw[Xw] at h;split at h
    ·cases h;exact⟨by simp,fun s hs=>by cases hs⟩
    ·split at h
     ·cases h
     ·rename_i s l1 h1;have k1:=(Yc f).2.2 _ _ _ _ hl h1;split at h
      ·cases h
      ·rename_i ss l3 h3;cases h;have i1:=ihs _ _ _ _ hl hn h1;have i2:=ihr _ _ _ _ k1.1 (by have:=k1.2;omega) h3;refine⟨hlb,fun x hx=>?_⟩;rcases List.mem_cons.1 hx with rfl|hx
       ·exact Vk i1 (by omega)
       ·exact Vk (i2.2 x hx) (by omega)
   ·rw[Xl] at h;split at h
    ·cases h
    ·rename_i k reg name ix xs r h1;have k1:=ZC hl h1;have ho:=headS_okE hl h1;split at h
     ·split at h
      ·cases h
      ·cases h;exact⟨ho.1,ho.2,by simp,by simp,fun s hs=>(by cases hs),fun s hs=>(by cases hs)⟩
     ·split at h
      ·cases h
      ·rename_i body r2 h2;have k2:=(Yc f).1 _ _ _ _ k1.1 h2;have i2:=ihb _ _ _ _ k1.1 (by have:=k1.2;omega) h2;split at h
       ·rename_i hc;split at h
        ·cases h
        ·rename_i els r3 h3;have k3:=Left.tail k2.1 (QC hc.2);have i3:=ihb _ _ _ _ k3.1 (by have:=k1.2;have:=k2.2;have:=k3.2;omega) h3;cases h;exact⟨ho.1,ho.2,i2.1,i3.1,i2.2,i3.2⟩
       ·cases h;exact⟨ho.1,ho.2,i2.1,by simp,i2.2,fun s hs=>(by cases hs)⟩
theorem Qzw {l:List Tok} (hl:TokL l) (hn:NumL l):Xg (hd l).num:=by
 obtain⟨t,r,rfl,_⟩:=hl.cons;have:=hn t (by simp);exact⟨this.1,this.2.1⟩
theorem yF {c:Cx} {l l2:List Tok} {z:Cx} (hl:TokL l) (hn:NumL l) (hc:Xg c) (h:second c l = .ok (z,l2)):Xg z:=by
 unfold second at h;split at h
 ·cases h;exact hc
 ·split at h
  ·cases h;exact hc
  ·rename_i hs;have h0:(hd l).kind≠0:=fun h0=>hs (by simp[Tok.isB,h0]);have k1:=Left.tail hl h0;have hd1:=Qzw k1.1 hn.tail;split at h
   ·cases h
   ·cases h;refine⟨hc.1,?_⟩;have:=hd1.2;simp only;split<;>omega
theorem ud {l l2:List Tok} {z:Cx} (hl:TokL l) (hn:NumL l) (h:Wn l = .ok (z,l2)):Xg z:=by
 rw[JG] at h;have key:∀ l1,TokL l1->NumL l1->(if (hd l1).kind≠2 then .error ((hd l1).place,WE) else second (if (hd l).isB [45] then ⟨0 - (hd l1).num.re,0 - (hd l1).num.im⟩ else (hd l1).num) l1.tail)=(.ok (z,l2):PR Cx)->Xg z:=fun l1 h1 n1 h=>by
  split at h
  ·cases h
  ·rename_i hk;have h2:(hd l1).kind=2:=by
    rcases Int.decEq (hd l1).kind 2 with hx|hx
    ·exact absurd hx hk
    ·exact hx
   have k2:=Left.tail h1 (by rw[h2];decide);have hd1:=Qzw h1 n1;refine yF k2.1 n1.tail ?_ h;split
   ·exact⟨by have:=hd1.1;simp only;omega,by have:=hd1.2;simp only;omega⟩
   ·exact hd1
 simp only at h;by_cases hm:(hd l).isB [45]=true
 ·rw[if_pos hm] at h;exact key l.tail (Left.tail hl (QC hm)).1 hn.tail h
 ·rw[if_neg hm] at h;exact key l hl hn h
theorem declD_ok {f:Nat} {l l2:List Tok} {d:Dc} (hl:TokL l) (hn:NumL l) (hlen:l.length<=1000000) (h:XU f l = .ok (d,l2)):Xg d.num/\∃ n,okB n d.body:=by
 have hz0:Xg zero:=⟨by decide,by decide⟩
 unfold XU at h;simp only at h;split at h
 ·cases h
 ·rename_i hs;have k0:=Left.tail hl (Vi hs);split at h
  ·cases h
  ·rename_i name r h1;have k1:Left 0 l.tail r/\r <:+ l.tail:=by
    split at h1
    ·cases h1;exact⟨.refl k0.1,List.suffix_refl _⟩
    ·exact⟨(Wp k0.1 h1).trans (.refl (Wp k0.1 h1).1) (by omega),YC h1⟩
   split at h
   ·split at h
    ·cases h
    ·rename_i b r2 h2;cases h;exact⟨hz0,_,(st_okB f).1 _ _ _ _ k1.1.1 (by have:=k0.2;have:=k1.1.2;omega) h2⟩
   ·split at h
    ·cases h
    ·rename_i z r2 h2;have hz:Xg z:=by
      split at h2
      ·cases h2;exact hz0
      ·exact ud k1.1.1 ((hn.sub (List.tail_suffix _)).sub k1.2) h2
     split at h
     ·cases h
     ·cases h;exact⟨hz,0,by simp,fun s hs=>by cases hs⟩
theorem yh:∀ (f:Nat) (l:List Tok) (ds:List Dc),TokL l->NumL l->l.length<=1000000->Xj f l = .ok ds->ds.length<=l.length/\(∀ d∈ds,Xg d.num)/\∀ d∈ds,∃ n,okB n d.body
 | 0,l,ds,_,_,_,h=>by rw[Xj] at h;cases h
 | f+1,l,ds,hl,hn,hlen,h=>by
   rw[Xj] at h;split at h
   ·cases h;exact⟨by simp,fun d hd=>(by cases hd),fun d hd=>(by cases hd)⟩
   ·split at h
    ·cases h
    ·rename_i d r h1;obtain⟨k1,s1⟩:=ZG hl h1;have o1:=declD_ok hl hn hlen h1;split at h
     ·cases h
     ·rename_i ds' h2;cases h;obtain⟨i1,i2,i3⟩:=yh f r ds' k1.1 (hn.sub s1) (by have:=k1.2;omega) h2;refine⟨by simp;have:=k1.2;omega,fun x hx=>?_,fun x hx=>?_⟩
      ·rcases List.mem_cons.1 hx with rfl|hx
       ·exact o1.1
       ·exact i2 x hx
      ·rcases List.mem_cons.1 hx with rfl|hx
       ·exact o1.2
       ·exact i3 x hx
theorem wS {s:Bs} {ds:List Dc} (hs:s.length<=500000) (h:YI s = .ok ds):DsOk ds:=by
 unfold YI at h;split at h
 ·cases h
 ·rename_i l h1;have hx:=qW h1;have hlen:=hx.len;obtain⟨i1,i2,i3⟩:=yh _ _ _ hx.tok hx.num (by omega) h;exact⟨by omega,i2,i3⟩
theorem zero94:QQ TC.P 94=some (.agg [.mnil,.int .i64 0,.int .i64 0,.snil,.snil,.int .i64 0]):=by kernel_rfl
theorem ncheck_ok (ds:List Dc) (hds:DsOk ds):Ql TC 32 [.agg [.slice (ds.map QO)]] (vB (Ya ds)):=by
 refine ADet.down (ex:=[9,24,1000026]) ?_;have hz4:=zero94;have hmt:=Zg;have hdl:=hds.len;refine ent Tryz.func32 fun L K hL hR hN hP=>?_;simp[hz4,hmt];refine Qw (Xf (id:=(L,3)) (o:=3) (el:=9) (sz:=1) (by simp[Qa.get];exact⟨rfl,rfl⟩) rfl (by decide)) ?_;refine Qw (Xf (id:=(L,3)) (o:=4) (el:=39) (sz:=1) (by simp[Qa.get];exact⟨rfl,rfl⟩) rfl (by decide)) ?_;have hi:(⟨(L,3),(L,2),(L,4)⟩:TIds).Ok:=⟨by simp,by simp,by simp⟩
 have fail:∀ s' e,Ya ds = .error e->Qf (TCe [9,24,1000026]).P s' Tryz.f32.results.toList=some [.agg [.mnil,.int .i64 0,.int .i64 0,.snil,.snil,.int .i64 0],.int .i64 e.1,.int .i64 e.2]->K .ret s':=fun s' e he h1=>by
  refine hR _ (.pures h1 (by simp) ?_);rw[he];exact .tup (.cons (.agg (.cons (.refl _) (.cons (.refl _) (.cons (.refl _) (.cons .snil (.cons .snil (.cons (.refl _) .nil))))))) (.cons (.refl _) (.cons (.refl _) .nil)))
 refine QB (α:=Nat × Decls) (fun x=>x.1<=ds.length/\TOk x.2 (ds.take x.1)/\Xr ⟨[],0,[],100⟩ ds=Xr x.2 (ds.drop x.1)) (fun x=>[(1,.ptr (L,0) 0),(2,.ptr (L,1) 0),(5,.ptr (L,3) 0),(18,.slice (ds.map QO)),(19,.int .i64 ds.length),(20,.int .i64 (x.1:Int))]) (fun x=>[((L,3),.cells 94 [.map (L,2),.int .i64 x.2.objects,.int .i64 0,.vec (L,4) x.2.threads.length,.vec (L,5) 0,.int .i64 x.2.budget]),((L,2),.map (WD x.2.things) (Wv x.2.things) x.2.things.length),((L,4),.vec 9 1 (x.2.threads.map encS) x.2.threads.length true),((L,5),.vec 39 1 [] 0 true),((L,1),.cells 94 [.mnil,.int .i64 0,.int .i64 0,.snil,.snil,.int .i64 0]),((L,0),.cells 77 [.slice (ds.map QO)])]) (fun x=>ds.length - x.1) (0,⟨[],0,[],100⟩) ⟨by simp,⟨by simp,by simp,by simp,⟨by simp[QJq],by simp,by simp⟩⟩,by simp⟩ (Qi (by simp) (by simp) (by simp[WD,Wv]) (by simp)) ?_;rintro⟨j,t⟩ L1 K1 ⟨hj,ht,hq⟩ hL1 - hnext hex hrt - -;have hLL:L<L1:=hL1;simp at hj ht hq;simp;refine Qv.mk (fun hb=>?_) fun hb=>?_
 ·have hjl:j<ds.length:=by simp at hb;omega
  obtain⟨d,hd2⟩:=gE hjl;have e1:(0:Int)<=(j:Int):=by omega
  have e2:(j:Int)<ds.length:=by omega
  have w1:=wr2 j;have hdm:=List.mem_of_getElem? hd2;have hdr:=uj hd2 t;rw[hdr] at hq;have hz:=hds.num d hdm;have hti:=ZQ (QD hz.1);have m4:¬ L1=L:=by omega
  have m5:¬ L=L1:=by omega
  have htk:ds.take (j+1)=ds.take j++[d]:=by rw[List.take_succ,hd2]<;>rfl
  simp[e1,hd2,QO,Qu];refine Yh (α:=Unit) (fun _=>True) (fun _=>[(1,.ptr (L,0) 0),(2,.ptr (L,1) 0),(5,.ptr (L,3) 0),(7,.ptr (L1,0) 0),(18,.slice (ds.map QO)),(19,.int .i64 ds.length),(20,.int .i64 (j:Int))]) (fun _=>((L1,0),.cells 84 [.int .i64 d.sort,.str (bs (WJ d)),.cplx .f64 (fz d.num.re) (fz d.num.im),.slice (Qr d.body),.int .i64 d.place])::[((L,3),.cells 94 [.map (L,2),.int .i64 t.objects,.int .i64 0,.vec (L,4) t.threads.length,.vec (L,5) 0,.int .i64 t.budget]),((L,2),.map (WD t.things) (Wv t.things) t.things.length),((L,4),.vec 9 1 (t.threads.map encS) t.threads.length true),((L,5),.vec 39 1 [] 0 true),((L,1),.cells 94 [.mnil,.int .i64 0,.int .i64 0,.snil,.snil,.int .i64 0]),((L,0),.cells 77 [.slice (ds.map QO)])]) 1 ?_ ?_
  ·intro K3 hnext3 hex3 hrt3 hgo3 hpn3;by_cases h4:d.sort=4
   ·have hb4:(d.sort == 4)=true:=by simp[h4]
    have hnm:bs (WJ d)=bs wBudget:=by unfold WJ;rw[if_pos h4]
    simp[hb4];exact hnext3 _ () trivial (Qi (by simp) (by simp) (by simp[hnm];rfl) (by simp[m4]))
   ·have hb4:(d.sort == 4)=false:=by simp[h4]
    have hnm:bs (WJ d)=bs d.name:=by unfold WJ;rw[if_neg h4]
    simp[hb4];exact hnext3 _ () trivial (Qi (by simp) (by simp) (by simp[hnm]) (by simp[m4]))
  ·rintro⟨⟩ -;have hcall:ADet TC 59 [.ptr (L,3) 0,.agg [.int .i64 d.sort,.str (bs (WJ d)),.cplx .f64 (fz d.num.re) (fz d.num.im),.slice (Qr d.body),.int .i64 d.place]] _ _ _:=Wfq ⟨(L,3),(L,2),(L,4)⟩ hi t d 0 (.vec (L,5) 0) hz ht.objects ht.threads ht.things;simp;refine Qe.det (ADet.up hcall) ?_ (by simp[tabS,tabB,Qa.keys]) (by decide) rfl (fun v hv=>?_) (fun v hv=>by cases hv)
   ·simp[tabS,tabB,mblk]
   cases hv;cases hD:Wo t d with
   | error e=>
     obtain⟨hde,hec⟩:=UA hD;have hne:(e != 0)=true:=by rcases hec with rfl|rfl|rfl<;>rfl
     rw[hde] at hq;have hce:Ya ds = .error (d.place,e):=by unfold Ya;rw[hq]
     simp[tabS,tabB,mblk,hne,m4];refine QJ [(2,34),(33,34)] (by kernel_rfl) ?_;simp[hz4,m4];refine⟨?_,?_⟩
     ·intro q hq v w hv hw id hid;simp at hq;rcases hq with rfl|rfl<;>(try simp at hv hw)<;>(try subst hv)<;>(try subst hw)<;>(try (simp[Qq] at hid ⊢))<;>(try simp[hid,m5])
     ·refine hrt _ ?_;exact fail _ (d.place,e) hce (by simp[Qf,Qj,m4])
   | ok t'=>
     obtain⟨_,_,hte,hde,_⟩:=Uz hD;have hbud:t'.budget=t.budget:=by rw[hte]
     rw[hde] at hq;simp[tabS,tabB,mblk,m4,m5];by_cases h4:d.sort=4
     ·have hb4:(d.sort == 4)=true:=by simp[h4]
      rw[if_pos h4] at hq;simp[hb4,hti,m5];exact hnext _ (j+1,{ t' with budget:=d.num.re }) ⟨by omega,by rw[htk];exact ht.step hD _,hq⟩ (by simp;omega) (Qb (by simp[w1]) (by simp) (by simp[m4,m5]))
     ·have hb4:(d.sort == 4)=false:=by simp[h4]
      rw[if_neg h4] at hq;simp[hb4,w1,hbud];exact hnext _ (j+1,{ t' with budget:=t.budget }) ⟨by omega,by rw[htk];exact ht.step hD _,hq⟩ (by simp;omega) (twk (hn:=by simp[m4,m5]))
 ·have hjl:j=ds.length:=by simp at hb;omega
  subst hjl;simp;refine hex _ _ ?_;simp;rw[List.drop_length,Xr] at hq;rw[List.take_length] at ht;by_cases hth:t.threads=[]
  ·have hb0:((t.threads.length:Int) == 0)=true:=by simp[hth]
   have hce:Ya ds = .error (0,8):=by unfold Ya;rw[hq];simp only;rw[if_pos hth]<;>rfl
   simp[hb0,hz4];exact fail _ (0,8) hce (by simp[Qf,Qj])
  ·have hb0:((t.threads.length:Int) == 0)=false:=by
    have:t.threads.length≠0:=fun h=>hth (List.eq_nil_of_length_eq_zero h);simp;omega
   simp[hb0];have hpl:=place_ok ⟨(L,3),(L,2),(L,4)⟩ hi t.objects 0 [.vec (L,4) t.threads.length,.vec (L,5) 0,.int .i64 t.budget] t.things ds hdl ht.pl;refine Qe.det (ADet.up hpl) ?_ (by simp[pS,Qa.keys]) (by decide) rfl (fun v hv=>?_) (fun v hv=>by cases hv)
   ·simp[pS,mblk]
   cases hv;obtain⟨p1,hp1⟩:∃ p1,(Xq t.things ds).1=p1:=⟨_,rfl⟩
   obtain⟨ts,hts⟩:∃ ts,(Xq t.things ds).2.1=ts:=⟨_,rfl⟩
   have hck:Ya ds=match WT ts ds with
    | .error e=>.error e
    | .ok regs=>.ok ⟨ts,t.objects,p1,t.threads,regs,t.budget⟩:=by
    unfold Ya;rw[hq];simp only;rw[if_neg hth,hts,hp1]<;>cases WT ts ds<;>rfl
   rw[hts,hp1];simp[pS,mblk];refine QB (α:=Nat × List (List Bs)) (fun x=>x.1<=ds.length/\x.2.length<=x.1/\WT ts ds=preL x.2 (WT ts (ds.drop x.1))) (fun x=>[(2,.ptr (L,1) 0),(5,.ptr (L,3) 0),(59,.slice (ds.map QO)),(60,.int .i64 ds.length),(61,.int .i64 (x.1:Int))]) (fun x=>[((L,3),.cells 94 [.map (L,2),.int .i64 t.objects,.int .i64 p1,.vec (L,4) t.threads.length,.vec (L,5) x.2.length,.int .i64 t.budget]),((L,2),.map (WD ts) (Wv ts) ts.length),((L,4),.vec 9 1 (t.threads.map encS) t.threads.length true),((L,5),.vec 39 1 (x.2.map fun r=>.slice (r.map encS)) x.2.length true),((L,1),.cells 94 [.mnil,.int .i64 0,.int .i64 0,.snil,.snil,.int .i64 0])]) (fun x=>ds.length - x.1) (0,[]) ⟨by simp,by simp,by simp;cases WT ts ds<;>rfl⟩ twk ?_;rintro⟨j,done⟩ L2 K2 ⟨hj2,hdn,hq2⟩ hL2 - hnext2 hex2 hrt2 - -;have hLL2:L<L2:=hL2;simp at hj2 hdn hq2;simp;refine Qv.mk (fun hb2=>?_) (fun hb2=>?_)
   ·have hjl:j<ds.length:=by simp at hb2;omega
    obtain⟨d,hd2⟩:=gE hjl;have e1:(0:Int)<=(j:Int):=by omega
    have e2:(j:Int)<ds.length:=by omega
    have w1:=wr2 j;have hdm:=List.mem_of_getElem? hd2;have hdr:=Qeq (ts:=ts) hd2;rw[hdr] at hq2;obtain⟨nb,hnb⟩:=hds.body d hdm;have m4:¬ L2=L:=by omega
    have m5:¬ L=L2:=by omega
    simp[e1,hd2,QO,Qu];by_cases h5:d.sort=5
    ·rw[if_pos h5] at hq2;have hb5:(d.sort != 5)=false:=by simp[h5]
     simp[hb5];have hcall:=QXq (L2,1) (L,3) (L,2) (by simp[m4]) (by simp[m4]) (by simp) [.int .i64 t.objects,.int .i64 p1,.vec (L,4) t.threads.length,.vec (L,5) done.length,.int .i64 t.budget] ts nb d.body hnb;refine Qe.gen (AFn.ctx (C:=TC) (C':=TCe [9,24,1000026]) rfl rfl hcall) ?_ (by simp[Qa.keys,m4]) (by decide) rfl ?_ ?_
     ·simp[mblk]
     ·rintro L3 v σ' hL3 - ⟨hv,rfl⟩;cases hv;have hLL3:L2<L3:=hL3;have m6:¬ L3=L:=by omega
      have m7:¬ L=L3:=by omega
      have m8:¬ L3=L2:=by omega
      have m9:¬ L2=L3:=by omega
      cases hst:Wu ts [] d.body with
      | error e=>
        have hne:(e.2 != 0)=true:=by rcases Zx _ hst with h|h|h<;>rw[h]<;>rfl
        rw[hst] at hq2;have hce:Ya ds = .error e:=by rw[hck,hq2]<;>rfl
        simp[erV,kOE,hne,hz4,m4,m5];refine hrt2 _ ?_;exact fail _ e hce (by simp[Qf,Qj,m4])
      | ok r=>
        rw[hst] at hq2;simp[erV,kOE,kS,mblk,m4,m5];refine Qw (Vg (τ':=[(5,.ptr (L,3) 0),(11,.ptr (L2,1) 0),(2,.ptr (L,1) 0),(59,.slice (ds.map QO)),(60,.int .i64 ds.length),(61,.int .i64 (j:Int))])
         (σ':=[((L2,1),.cells 146 [.ptr (L,3) 0,.slice (r.map encS)]),((L,3),.cells 94 [.map (L,2),.int .i64 t.objects,.int .i64 p1,.vec (L,4) t.threads.length,.vec (L,5) done.length,.int .i64 t.budget]),((L,2),.map (WD ts) (Wv ts) ts.length),((L,4),.vec 9 1 (t.threads.map encS) t.threads.length true),((L,5),.vec 39 1 (done.map fun r=>.slice (r.map encS)) done.length true),((L,1),.cells 94 [.mnil,.int .i64 0,.int .i64 0,.snil,.snil,.int .i64 0])])
         [((L3,0),.vec 9 1 (r.map encS) r.length true)]
         [((L2,1),.cells 146 [.ptr (L,3) 0,.vec (L3,0) r.length]),((L,3),.cells 94 [.map (L,2),.int .i64 t.objects,.int .i64 p1,.vec (L,4) t.threads.length,.vec (L,5) done.length,.int .i64 t.budget]),((L,2),.map (WD ts) (Wv ts) ts.length),((L,4),.vec 9 1 (t.threads.map encS) t.threads.length true),((L,5),.vec 39 1 (done.map fun r=>.slice (r.map encS)) done.length true),((L,1),.cells 94 [.mnil,.int .i64 0,.int .i64 0,.snil,.snil,.int .i64 0])] ?_ ?_ ?_ ?_ ?_ ?_) ?_
        ·simp;exact⟨.refl _,.refl _,.refl _,.refl _,.refl _,.refl _⟩
        ·simp
        ·simp
        ·simp[Qa.keys,m4,m5]
        ·simp[Qa.keys,m6,m7,m8,m9]
        ·exact .cons (.cells (.cons (.refl _) (.cons (.vec (t:=9) (s:=1) (es:=r.map encS) (wr:=true) (by simp[Qa.get]) (Qn _)) .nil))) (.refl _)
        refine QJ [] (by kernel_rfl) ?_;have c1:done.length<=9223372036854775806:=by omega
        have c2:(done.length+1)*24<=140737488355328:=by omega
        simp[c1,c2,m4];refine⟨fun q hq=>(by cases hq),?_⟩;simp[w1];refine hnext2 _ (j+1,done++[r]) ⟨by omega,by simp;omega,?_⟩ (by simp;omega) (twk (hn:=by simp[m4]));rw[hq2];cases WT ts (ds.drop (j+1))<;>simp[preL]
     ·rintro L3 v σ' - - ⟨hv,_⟩;cases hv
    ·rw[if_neg h5] at hq2;have hb5:(d.sort != 5)=true:=by simpa using h5
     simp[hb5,w1];exact hnext2 _ (j+1,done) ⟨by omega,by simp;omega,hq2⟩ (by simp;omega) (twk (hn:=by simp[m4]))
   ·have hjl:j=ds.length:=by simp at hb2;omega
    subst hjl;rw[List.drop_length,WT] at hq2;simp;refine hex2 _ _ ?_;simp;have hce:Ya ds = .ok ⟨ts,t.objects,p1,t.threads,done,t.budget⟩:=by rw[hck,hq2];simp[preL]
    refine hR _ ?_;refine .keeps [((L,2),.map (WD ts) (Wv ts) ts.length),((L,4),.vec 9 1 (t.threads.map encS) t.threads.length true),((L,5),.vec 39 1 (done.map fun r=>.slice (r.map encS)) done.length true)] [] (by simp[Qf,Qj];rfl) (by simp) (by simp) (by simp) (by simp[Qa.keys]) (by simp[Qa.keys]) ?_ ⟨rfl,rfl⟩;rw[hce];refine .tup (.cons (.agg (.cons (.map (clk:=ts.length) (by simp[Qa.get]) (Qn _) (Qn _)) (.cons (.refl _) (.cons (.refl _) (.cons (.vec (t:=9) (s:=1) (es:=t.threads.map encS) (wr:=true) (by simp[Qa.get]) (Qn _)) (.cons (.vec (t:=39) (s:=1) (es:=done.map fun r=>.slice (r.map encS)) (wr:=true) (by simp[Qa.get]) (Qn _)) (.cons (.refl _) .nil))))))) (.cons (.refl _) (.cons (.refl _) .nil)))
def QM (x:Ins):V:=.agg [.int .i64 x.kind,.int .i64 x.reg,.int .i64 x.base,.int .i64 x.len,.bool x.indexed,.slice (Qm x.exprs),.int .i64 x.Jc]
structure MIds where
 m:Id
 cid:Id
structure MIds.Ok (i:MIds):Prop where
 n1:i.m≠i.cid
def Wb (t:Sp.Table) (regs:List Bs) (c:V):List V:=[.mapv (WD t.things) (Wv t.things),.int .i64 t.objects,.int .i64 t.first,.slice (t.threads.map encS),.slice (t.regs.map fun r=>.slice (r.map encS)),.int .i64 t.budget,.slice (regs.map encS),c]
def mS (i:MIds) (t:Sp.Table) (regs:List Bs) (code:List Ins):Qa:=[(i.m,.cells 153 (Wb t regs (.vec i.cid code.length))),(i.cid,.vec 63 7 (code.map QM) code.length true)]
theorem idxS_eq (l:List Bs) (s:Bs):Sp.idxOf l s=if l.contains s=true then ((l.idxOf s:Nat):Int) else -1:=by
 unfold Sp.idxOf;by_cases h:l.contains s=true
 ·have h2:l.findIdx? (· == s)=some (l.findIdx (· == s)):=List.findIdx?_eq_some_of_exists ⟨s,List.contains_iff_mem.1 h,by simp⟩;rw[h2,if_pos h]<;>rfl
 ·have h2:l.findIdx? (· == s)=none:=by
   rw[List.findIdx?_eq_none_iff];intro x hx;simp;rintro rfl;exact h (List.contains_iff_mem.2 hx)
  rw[h2,if_neg h]
theorem IndexS_ok (l:List Bs) (s:Bs) (hl:l.length<=1000000):Ql TC 115 [.slice (l.map encS),encS s] (.int .i64 (Sp.idxOf l s)):=by
 rw[idxS_eq];exact QMq l s hl
theorem yL (i:MIds) (hi:i.Ok) (t:Sp.Table) (regs:List Bs) (code:List Ins) (x:Ins) (hc:code.length<=1000000):
 ADet TC 97 [.ptr i.m 0,QM x] (mS i t regs code) (.ret (.int .i64 code.length)) (mS i t regs (code++[x])):=by
 obtain⟨n1⟩:=hi;refine ent Tryz.func97 fun L K hL hR hN hP=>?_;have hL1:i.m.1<L:=hL i.m (by simp[Qa.keys,mS]);have hL2:i.cid.1<L:=hL i.cid (by simp[Qa.keys,mS]);obtain⟨m,cid⟩:=i;simp only at n1 hL1 hL2;have m1:=n1.symm;have a1:∀ j:Nat,¬ (L,j)=m:=fun j e=>by rw[<- e] at hL1;exact Nat.lt_irrefl _ hL1
 have a2:∀ j:Nat,¬ (L,j)=cid:=fun j e=>by rw[<- e] at hL2;exact Nat.lt_irrefl _ hL2
 have b1:∀ j:Nat,¬ m=(L,j):=fun j e=>a1 j e.symm;have b2:∀ j:Nat,¬ cid=(L,j):=fun j e=>a2 j e.symm;have c1:code.length<=9223372036854775806:=by omega
 have c2:(code.length+1)*72<=140737488355328:=by omega
 have w1:IntKind.i64.wrap (code.length:Int)=code.length:=wrap_i64 (by omega) (by omega);simp[mS,Wb,QM,c1,c2,w1,a1,a2,n1];refine hR _ ?_;refine .keep [] (mS ⟨m,cid⟩ t regs (code++[x])) rfl (by simp[mS,Wb,QM]) (by simp) (by simp[Qa.keys,mS,n1]) (by simp[Qa.keys,mS]) (.refl _) ⟨rfl,rfl⟩
theorem zero63:QQ TC.P 63=some (.agg [.int .i64 0,.int .i64 0,.int .i64 0,.int .i64 0,.bool false,.snil,.int .i64 0]):=by kernel_rfl
theorem plain_ok (i:MIds) (hi:i.Ok) (t:Sp.Table) (regs:List Bs) (code:List Ins) (kind:Int) (reg name:Bs) (ix:Bool) (xs:List Ex) (body els:List St) (place:Int) (hrl:regs.length<=1000000):
 ADet TC 98 [.ptr i.m 0,We (.mk kind reg name ix xs body els place)] (mS i t regs code) (.ret (QM (wR t.things regs (.mk kind reg name ix xs body els place)))) (mS i t regs code):=by
 have hi0:=hi;obtain⟨n1⟩:=hi;refine ADet.down (ex:=[3,5,6,1000016,1000027]) ?_;have hmt:=Zg;have hst9:Qo TC.P 9 = .str:=by kernel_rfl
 have hz6:=zero63;refine ent Tryz.func98 fun L K hL hR hN hP=>?_;have hL1:i.m.1<L:=hL i.m (by simp[Qa.keys,mS]);have hL2:i.cid.1<L:=hL i.cid (by simp[Qa.keys,mS]);obtain⟨m,cid⟩:=i;simp only at n1 hL1 hL2;have m1:=n1.symm;have a1:∀ j:Nat,¬ (L,j)=m:=fun j e=>by rw[<- e] at hL1;exact Nat.lt_irrefl _ hL1
 have a2:∀ j:Nat,¬ (L,j)=cid:=fun j e=>by rw[<- e] at hL2;exact Nat.lt_irrefl _ hL2
 have b1:∀ j:Nat,¬ m=(L,j):=fun j e=>a1 j e.symm;have b2:∀ j:Nat,¬ cid=(L,j):=fun j e=>a2 j e.symm;simp[mS,Wb,We,hz6];have hgv:=Ql.up (ex:=[3,5,6,1000016,1000027]) (wJ kind);have hnm:=Ql.up (ex:=[3,5,6,1000016,1000027]) (Vt kind);refine Qc hgv ?_;simp;obtain⟨rg,hrg⟩:∃ rg:Int,rg=if Wh kind then Sp.idxOf regs reg else -1:=⟨_,rfl⟩
 refine Yh (α:=Unit) (fun _=>True) (fun _=>[(0,.ptr m 0),(3,.ptr (L,0) 0),(4,.ptr (L,1) 0),(5,.ptr (L,2) 0)]) (fun _=>[((L,2),.cells 63 [.int .i64 kind,.int .i64 rg,.int .i64 0,.int .i64 0,.bool ix,.slice (Qm xs),.int .i64 0]),((L,1),.cells 63 [.int .i64 0,.int .i64 0,.int .i64 0,.int .i64 0,.bool false,.snil,.int .i64 0]),((L,0),.cells 56 [.int .i64 kind,.str (bs reg),.str (bs name),.bool ix,.slice (Qm xs),.slice (Qr body),.slice (Qr els),.int .i64 place]),(m,.cells 153 (Wb t regs (.vec cid code.length))),(cid,.vec 63 7 (code.map QM) code.length true)]) 3 ?_ ?_
 ·intro K1 hnext hex hrt hgo hpn;rcases hg:Wh kind
  ·rw[hg] at hrg;have hrg:rg = -1:=hrg;simp;exact hnext _ () trivial (Qi (by simp) (by simp) (by simp[hrg,Wb]) (by simp[a1,a2,n1]))
  ·rw[hg] at hrg;have hrg:rg=Sp.idxOf regs reg:=hrg;have hix:=Ql.up (ex:=[3,5,6,1000016,1000027]) (IndexS_ok regs reg hrl);simp;refine Zr 6 [19,21,24] [] [] (.int .i64 (Sp.idxOf regs reg)) rfl (by kernel_rfl) (by simp[Qa.keys]) (by simp[Qa.keys]) (by simp[Qa.keys]) ?_;simp[a1];refine DetS.of rfl rfl rfl rfl rfl hix rfl (by simp) ?_;simp[AOut.val,ASt.putD];refine⟨?_,?_⟩
   ·intro t ht v hv id hid;simp[Qa.keys]
   ·exact hnext _ () trivial (Qi (by simp) (by simp) (by simp[hrg,Wb]) (by simp[a1,a2,n1]))
 ·rintro⟨⟩ -;simp[Wb];refine Qc hnm ?_;simp;obtain⟨ba,hba⟩:∃ ba:Int,ba=if Qz kind then ((t.things.lookup name).map Zq.base).getD 0 else 0:=⟨_,rfl⟩
  obtain⟨le,hle⟩:∃ le:Int,le=if Qz kind then lenOf t.things name else 0:=⟨_,rfl⟩
  refine Yh (α:=Unit) (fun _=>True) (fun _=>[(4,.ptr (L,1) 0),(5,.ptr (L,2) 0)]) (fun _=>[((L,2),.cells 63 [.int .i64 kind,.int .i64 rg,.int .i64 ba,.int .i64 le,.bool ix,.slice (Qm xs),.int .i64 0]),((L,1),.cells 63 [.int .i64 0,.int .i64 0,.int .i64 0,.int .i64 0,.bool false,.snil,.int .i64 0]),(m,.cells 153 (Wb t regs (.vec cid code.length))),(cid,.vec 63 7 (code.map QM) code.length true)]) 4 ?_ ?_
  ·intro K1 hnext hex hrt hgo hpn;rcases hn:Qz kind
   ·rw[hn] at hba hle;have hba:ba=0:=hba;have hle:le=0:=hle;simp;exact hnext _ () trivial (Qi (by simp) (by simp) (by simp[hba,hle,Wb]) (by simp[a1,a2,n1]))
   ·rw[hn] at hba hle;have hba:ba=((t.things.lookup name).map Zq.base).getD 0:=hba;have hle:le=lenOf t.things name:=hle;obtain⟨y,hy1,hy2,hy3⟩:∃ y:Zq,XS TC.P 91 (WD t.things) (Wv t.things) (.str (bs name)) false=some (Wa y)/\y.base=ba/\y.len=le:=by
     cases hlk:t.things.lookup name with
     | none=>exact⟨⟨0,0,0,⟨0,0⟩⟩,by rw[jV hlk];simp[YS,Wa,Qu,WZ],by rw[hba,hlk];rfl,by rw[hle];unfold lenOf;rw[hlk];rfl⟩
     | some y=>exact⟨y,by rw[jU hlk];rfl,by rw[hba,hlk];rfl,by rw[hle];unfold lenOf;rw[hlk];rfl⟩
    simp[Wa,Qu,-XS] at hy1;simp;refine QJ [(6,31),(6,33),(6,32),(6,34)] (by kernel_rfl) ?_;simp[hy1,-XS,a1];refine⟨?_,?_⟩
    ·intro q hq v w hv hw id hid;simp at hq;rcases hq with rfl|rfl|rfl|rfl<;>(try simp at hv hw)<;>(try subst hv)<;>(try subst hw)<;>(try (simp[Qq] at hid ⊢))<;>(try simp[hid,a1])
    ·refine QJ [(36,40),(36,37),(36,41),(36,39),(38,40),(38,37),(38,41),(38,39)] (by kernel_rfl) ?_;simp;refine⟨?_,?_⟩
     ·intro q hq v w hv hw id hid;simp at hq;rcases hq with rfl|rfl|rfl|rfl|rfl|rfl|rfl|rfl<;>(try simp at hv hw)<;>(try subst hv)<;>(try subst hw)<;>(try (simp[Qq] at hid ⊢))<;>(try simp[hid])
     ·exact hnext _ () trivial (Qi (by simp) (by simp) (by simp[hy2,hy3,Wb]) (by simp[a1,a2,n1]))
  ·rintro⟨⟩ -;simp[Wb];refine hR _ ?_;refine .keep [] (mS ⟨m,cid⟩ t regs code) (by simp[Qf,Qj];rfl) (by simp[mS,Wb]) (by simp) (by simp[Qa.keys,mS,n1]) (by simp[Qa.keys,mS]) (.refl _) ⟨?_,rfl⟩;unfold wR;simp[QM,St.kind,St.reg,St.name,St.indexed,St.exprs,hrg,hba,hle];exact⟨rfl,rfl,rfl⟩
theorem insL_drop {ts:Qp} {regs:List Bs} {l:List St} {k:Nat} {s:St} (h:l[k]? = some s) (p:Nat):insL ts regs p (l.drop k)=insS ts regs p s++insL ts regs (p+(insS ts regs p s).length) (l.drop (k+1)):=by
 have hk:k<l.length:=(gS h).1;have he:l[k]=s:=(gS h).2;rw[List.drop_eq_getElem_cons hk,insL,he]
def Ins.to (x:Ins) (n:Int):Ins:={ x with Jc:=n }
theorem vK {C:Ctx} {f:FuncId} {args args':List V} {σ:Qa} {R:Nat->AOut->Qa->Prop} (h:AFn C f args' σ R) (ha:∀ E cvs,RepL E args cvs->RepL E args' cvs):AFn C f args σ R:=
 ⟨h.1,fun E cargs L hs hg hr hL=>h.2 E cargs L hs hg (ha _ _ hr) hL⟩
theorem uU {m:Id} {p:Int} (E:Amb) (cvs:List Value) (h:RepL E [.ptr m 0,.agg [.int .i64 16,.int .i64 (-1),.int .i64 0,.int .i64 0,.bool false,.snil,.int .i64 p]] cvs):RepL E [.ptr m 0,QM (Vo p)] cvs:=by
 cases h with
 | cons h1 h2=>cases h2 with
   | cons h3 h4=>
     refine .cons h1 (.cons ?_ h4);cases h3 with
     | agg hr hs=>
       refine .agg (jG (i:=5) (v':=.slice []) hr rfl fun cv hcv=>?_) (by simp);obtain⟨cv',hc',hrep⟩:=hr.get (i:=5) (v:=.snil) rfl;rw[hcv] at hc';cases hc';cases hrep;exact .slice0 _ _
theorem yS {ts:Qp} {regs:List Bs} {p:Nat} {k:Int} {reg name:Bs} {ix:Bool} {xs:List Ex} {body els:List St} {pl:Int} (h:¬ k<15):insS ts regs p (.mk k reg name ix xs body els pl) =
 (let b:=insL ts regs (p+1) body
  let e:=p+1+b.length
  if k=16 then WS xs (e+1:Nat)::(b++[Vo p])
  else if els=[] then WS xs e::b
  else WS xs (e+1:Nat)::(b++[Vo ((e+1+(insL ts regs (e+1) els).length:Nat):Int)]++insL ts regs (e+1) els)):=by
 rw[insS,if_neg h];simp only;split
 ·rfl
 ·cases els with
  | nil=>rfl
  | cons s r=>rw[if_neg (by simp)];simp only[insL]
theorem uL (i:MIds) (hi:i.Ok) (t:Sp.Table) (regs:List Bs) (hrl:regs.length<=1000000):∀ (n:Nat) (l:List St) (code:List Ins),okB n l->(code++insL t.things regs code.length l).length<=1000000->
 ADet TC 62 [.ptr i.m 0,.slice (Qr l)] (mS i t regs code) (.ret (.tup [])) (mS i t regs (code++insL t.things regs code.length l)):=by
 intro n
 induction n using Nat.strongRecOn with|_ n ih=>?_
 intro l code hn hlen;have hi0:=hi;obtain⟨n1⟩:=hi;have hll:=hn.1;refine ent Tryz.func62 fun L K hL hR hN hP=>?_;have hL1:i.m.1<L:=hL i.m (by simp[Qa.keys,mS]);have hL2:i.cid.1<L:=hL i.cid (by simp[Qa.keys,mS]);obtain⟨m,cid⟩:=i;simp only at n1 hL1 hL2;have m1:=n1.symm;simp;refine QB (α:=Nat × List Ins) (fun x=>x.1<=l.length/\code++insL t.things regs code.length l=x.2++insL t.things regs x.2.length (l.drop x.1)) (fun x=>[(0,.ptr m 0),(9,.slice (Qr l)),(10,.int .i64 l.length),(11,.int .i64 (x.1:Int))]) (fun x=>mS ⟨m,cid⟩ t regs x.2) (fun x=>l.length - x.1) (0,code) ⟨by simp,by simp⟩ (Qb (by simp[WG]) (by simp) (by simp[mS,Qa.keys,n1])) ?_;rintro⟨k,c0⟩ L1 K1 ⟨hk,heq⟩ hL1' - hnext hex hrt - -;have hLL:L<L1:=hL1';simp at hk heq;have a1:∀ j:Nat,¬ (L1,j)=m:=fun j e=>by rw[<- e] at hL1;simp at hL1;omega
 have a2:∀ j:Nat,¬ (L1,j)=cid:=fun j e=>by rw[<- e] at hL2;simp at hL2;omega
 have b1:∀ j:Nat,¬ m=(L1,j):=fun j e=>a1 j e.symm;have b2:∀ j:Nat,¬ cid=(L1,j):=fun j e=>a2 j e.symm;simp;refine Qv.mk (fun hb=>?_) fun hb=>?_
 ·have hk4:k<l.length:=by simp at hb;omega
  obtain⟨x,hx⟩:=gE hk4;have b1':(0:Int)<=(k:Int):=by omega
  have b2':(k:Int)<l.length:=by omega
  have w1:=wr2 k;have hsz:=hn.2 x (List.mem_of_getElem? hx);have hdr:=insL_drop (ts:=t.things) (regs:=regs) hx c0.length;rw[hdr] at heq;have hxs:(Qr l)[k]? = some (We x):=by rw[WG,List.getElem?_map,hx]<;>rfl
  have hkk:k<(Qr l).length:=by rw[WG];simpa using hk4
  obtain⟨q,rfl⟩:∃ q,n=q+1:=by cases n with|zero=>exact hsz.elim|succ q=>exact⟨q,rfl⟩
  obtain⟨kind,reg,name,ix,xs,body,els,place⟩:=x;have hxv:(Qr l)[k] = .agg [.int .i64 kind,.str (bs reg),.str (bs name),.bool ix,.slice (Qm xs),.slice (Qr body),.slice (Qr els),.int .i64 place]:=by rw[List.getElem?_eq_getElem hkk] at hxs;exact Option.some.inj hxs
  have hlen2:=congrArg List.length heq;have hcl:c0.length<=1000000:=by rw[hlen2,List.length_append] at hlen;omega
  simp[mS,Wb,hkk,hxv,b1'];by_cases h15:kind<15
  ·simp[h15];have hpl:=plain_ok ⟨m,cid⟩ hi0 t regs c0 kind reg name ix xs body els place hrl;rw[We] at hpl;refine Qe.det hpl ?_ (by simp[mS,Qa.keys,n1]) (by decide) rfl (fun v hv=>?_) (fun v hv=>by cases hv)
   ·simp[mS,Wb]
   cases hv;have hpu:=yL ⟨m,cid⟩ hi0 t regs c0 (wR t.things regs (.mk kind reg name ix xs body els place)) hcl;simp[mS,Wb,a1,a2,n1,m1];refine Qe.det hpu ?_ (by simp[mS,Qa.keys,n1]) (by decide) rfl (fun v hv=>?_) (fun v hv=>by cases hv)
   ·simp[mS,Wb]
   cases hv;simp[mS,Wb,w1,a1,a2,n1,m1];refine hnext _ (k+1,c0++[wR t.things regs (.mk kind reg name ix xs body els place)]) ⟨by omega,?_⟩ (by simp;omega) (Qb (by simp) (by simp[mS,Wb]) (by simp[mS,Qa.keys,n1]));have hins:insS t.things regs c0.length (.mk kind reg name ix xs body els place)=[wR t.things regs (.mk kind reg name ix xs body els place)]:=by rw[insS,if_pos h15]
   rw[hins] at heq;rw[heq];simp
  ·simp[h15,a1,a2,n1];have hbr:=yS (ts:=t.things) (regs:=regs) (p:=c0.length) (reg:=reg) (name:=name) (ix:=ix) (xs:=xs) (body:=body) (els:=els) (pl:=place) h15;have hp1:=yL ⟨m,cid⟩ hi0 t regs c0 (WS xs 0) hcl;obtain⟨b,hbd⟩:∃ b,insL t.things regs (c0.length+1) body=b:=⟨_,rfl⟩
   have hins:c0.length+1+b.length<=1000000:=by
    rw[heq,hbr] at hlen;simp only[hbd] at hlen;rw[List.length_append,List.length_append] at hlen;split at hlen
    ·simp at hlen;omega
    ·split at hlen<;>simp at hlen<;>omega
   refine Qe.det hp1 ?_ (by simp[mS,Qa.keys,n1]) (by decide) rfl (fun v hv=>?_) (fun v hv=>by cases hv)
   ·simp[mS,Wb]
   cases hv;simp[mS,Wb,a1,a2,b1,b2,n1,m1];have hst:=ih q (by omega) body (c0++[WS xs 0]) ⟨hsz.2.2.1,hsz.2.2.2.2.1⟩ (by simp[hbd];omega);rw[show (c0++[WS xs 0]).length=c0.length+1 from by simp,hbd] at hst;refine Qe.det hst ?_ (by simp[mS,Qa.keys,n1]) (by decide) rfl (fun v hv=>?_) (fun v hv=>by cases hv)
   ·simp[mS,Wb]
   cases hv;simp[mS,Wb,a1,a2,b1,b2,n1,m1];by_cases h16:kind=16
   ·have hb16:(kind == 16)=true:=by simp[h16]
    rw[if_pos h16] at hbr;simp[hb16];have hp2:ADet TC 97 [.ptr m 0,.agg [.int .i64 16,.int .i64 (-1),.int .i64 0,.int .i64 0,.bool false,.snil,.int .i64 (c0.length:Int)]] _ _ _:=vK (yL ⟨m,cid⟩ hi0 t regs (c0++[WS xs 0]++b) (Vo c0.length) (by simp;omega)) uU;refine Qe.det hp2 ?_ (by simp[mS,Qa.keys,n1]) (by decide) rfl (fun v hv=>?_) (fun v hv=>by cases hv)
    ·simp[mS,Wb]
    cases hv;have hbrv:QM (WS xs 0) = .agg [.int .i64 15,.int .i64 (-1),.int .i64 0,.int .i64 0,.bool false,.slice (Qm xs),.int .i64 0]:=rfl;simp[mS,Wb,w1,hbrv,a1,a2,n1,m1];rw[hbr] at heq;simp only[hbd] at heq;refine hnext _ (k+1,c0++(WS xs ((c0.length+1+b.length+1:Nat):Int)::(b++[Vo c0.length]))) ⟨by omega,?_⟩ (by simp;omega) (Qb (by simp) ?_ (by simp[mS,Qa.keys,n1]))
    ·rw[heq,List.append_assoc,List.length_append]
    ·have e1:(c0.length:Int)+(b.length+1+1)=((c0.length+1+b.length+1:Nat):Int):=by omega
     have e2:QM (WS xs ((c0.length+1+b.length+1:Nat):Int)) = .agg [.int .i64 15,.int .i64 (-1),.int .i64 0,.int .i64 0,.bool false,.slice (Qm xs),.int .i64 ((c0.length:Int)+(b.length+1+1))]:=by rw[e1]<;>rfl
     simp only[mS,Wb,List.map_append,List.map_cons,e2];simp
   ·have hb16:(kind == 16)=false:=by simp[h16]
    rw[if_neg h16] at hbr;have hbrv:QM (WS xs 0) = .agg [.int .i64 15,.int .i64 (-1),.int .i64 0,.int .i64 0,.bool false,.slice (Qm xs),.int .i64 0]:=rfl;by_cases hels:els=[]
    ·subst hels;rw[if_pos rfl] at hbr;simp[hb16,Qr,w1,hbrv,b1,b2,n1];rw[hbr] at heq;simp only[hbd] at heq;refine hnext _ (k+1,c0++(WS xs ((c0.length+1+b.length:Nat):Int)::b)) ⟨by omega,?_⟩ (by simp;omega) (Qb (by simp) ?_ (by simp[mS,Qa.keys,n1]))
     ·rw[heq,List.append_assoc,List.length_append]
     ·have e1:(c0.length:Int)+(b.length+1)=((c0.length+1+b.length:Nat):Int):=by omega
      have e2:QM (WS xs ((c0.length+1+b.length:Nat):Int)) = .agg [.int .i64 15,.int .i64 (-1),.int .i64 0,.int .i64 0,.bool false,.slice (Qm xs),.int .i64 ((c0.length:Int)+(b.length+1))]:=by rw[e1]<;>rfl
      simp only[mS,Wb,List.map_append,List.map_cons,e2];simp
    ·rw[if_neg hels] at hbr;have hel:(0:Int)<(Qr els).length:=by
      have:els.length≠0:=fun h=>hels (List.eq_nil_of_length_eq_zero h);rw[WG];simp;omega
     have hel2:0<(Qr els).length:=by omega
     simp[hb16,hel2,hbrv,b1,b2];have hp2:ADet TC 97 [.ptr m 0,.agg [.int .i64 16,.int .i64 (-1),.int .i64 0,.int .i64 0,.bool false,.snil,.int .i64 0]] _ _ _:=vK (yL ⟨m,cid⟩ hi0 t regs (c0++[WS xs 0]++b) (Vo 0) (by simp;omega)) uU;refine Qe.det hp2 ?_ (by simp[mS,Qa.keys,n1]) (by decide) rfl (fun v hv=>?_) (fun v hv=>by cases hv)
     ·simp[mS,Wb,hbrv]
     cases hv;simp[mS,Wb,hbrv,a1,a2,b1,b2,n1,m1];rw[hbr] at heq;simp only[hbd] at heq;obtain⟨c',hc'⟩:∃ c',insL t.things regs (c0.length+1+b.length+1) els=c':=⟨_,rfl⟩
     rw[hc'] at heq;have hlen3:c0.length+1+b.length+1+c'.length<=1000000:=by
      rw[heq,List.length_append,List.length_append] at hlen;simp at hlen;omega
     have e1:(c0.length:Int)+(b.length+1+1)=((c0.length+1+b.length+1:Nat):Int):=by omega
     have e2:QM (WS xs ((c0.length+1+b.length+1:Nat):Int)) = .agg [.int .i64 15,.int .i64 (-1),.int .i64 0,.int .i64 0,.bool false,.slice (Qm xs),.int .i64 ((c0.length:Int)+(b.length+1+1))]:=by rw[e1]<;>rfl
     have hc2:(c0++WS xs ((c0.length+1+b.length+1:Nat):Int)::(b++[Vo 0])).length=c0.length+1+b.length+1:=by simp;omega
     have hst2:=ih q (by omega) els (c0++WS xs ((c0.length+1+b.length+1:Nat):Int)::(b++[Vo 0])) ⟨hsz.2.2.2.1,hsz.2.2.2.2.2⟩ (by rw[hc2,hc',List.length_append,hc2];exact hlen3);rw[hc2,hc'] at hst2;refine Qe.det hst2 ?_ (by simp[mS,Qa.keys,n1]) (by decide) rfl (fun v hv=>?_) (fun v hv=>by cases hv)
     ·simp only[mS,Wb,List.map_append,List.map_cons,e2];simp
     cases hv;have hjv:QM (Vo 0) = .agg [.int .i64 16,.int .i64 (-1),.int .i64 0,.int .i64 0,.bool false,.slice [],.int .i64 0]:=rfl;simp only[mS,Wb,List.map_append,List.map_cons,e2,hjv,List.map_nil];have tn:((c0.length:Int)+(b.length+1)).toNat=c0.length+(b.length+1):=by omega
     have p1:(0:Int)<=(c0.length:Int)+(b.length+1):=by omega
     have p2:c0.length+(b.length+1)<c0.length+(b.length+(c'.length+1)+1):=by omega
     simp[w1,tn,p1,p2,a1,a2,n1,m1];refine hnext _ (k+1,c0++(WS xs ((c0.length+1+b.length+1:Nat):Int)::(b++[Vo ((c0.length+1+b.length+1+c'.length:Nat):Int)]++c'))) ⟨by omega,?_⟩ (by simp;omega) (Qb (by simp) ?_ (by simp[mS,Qa.keys,n1]))
     ·rw[heq];simp
     ·have e3:(c0.length:Int)+(b.length+(c'.length+1)+1)=((c0.length+1+b.length+1+c'.length:Nat):Int):=by omega
      have e4:QM (Vo ((c0.length+1+b.length+1+c'.length:Nat):Int)) = .agg [.int .i64 16,.int .i64 (-1),.int .i64 0,.int .i64 0,.bool false,.slice [],.int .i64 ((c0.length:Int)+(b.length+(c'.length+1)+1))]:=by rw[e3]<;>rfl
      simp only[mS,Wb,List.map_append,List.map_cons,e2,e4,List.map_nil];simp
 ·have hk4:k=l.length:=by simp at hb;omega
  subst hk4;rw[List.drop_length,insL] at heq;simp;refine hex _ _ ?_;simp;refine hN _ ?_;refine .keeps [] (mS ⟨m,cid⟩ t regs c0) (vs:=[]) rfl (by simp) (by simp) (by simp) (by simp[Qa.keys,mS,n1]) (by simp[Qa.keys]) (.refl _) ⟨rfl,by rw[heq];simp⟩
theorem Wkq (x:Ins):Ql TC 28 [QM x] (.bool (Qz x.kind)):=by
 refine ent Tryz.func28 fun L K hL hR hN hP=>?_;simp[QM];refine Qc (Vt x.kind) ?_;simp;exact hR _ (.pure rfl (.refl _))
def XA (t:Th):V:=.agg [.slice (t.code.map QM),.slice (t.regs.map encS)]
def Yw (p:Pg):V:=.agg [.slice (p.threads.map XA),.slice (p.cells.map Qu),.int .i64 p.mutexes,.slice (p.sems.map fun n=>.int .i64 n),.int .i64 p.budget]
structure PgSmall (p:Pg):Prop where
 threads:p.threads.length<=1000000
 cells:p.cells.length<=100000000
 mutexes:0<=p.mutexes/\p.mutexes<=1000000
 sems:p.sems.length<=1000000
def WX (p:Pg) (k:Int):Int:=p.cells.length+p.mutexes+p.sems.length+k
theorem yq (p:Pg) (hp:PgSmall p) (k:Int) (hk:0<=k/\k<=1000000):Ql TC 14 [Yw p,.int .i64 k] (.int .i64 (WX p k)):=by
 have h1:=hp.threads;have h2:=hp.cells;have h3:=hp.mutexes;have h4:=hp.sems;refine ent Tryz.func14 fun L K hL hR hN hP=>?_;simp[Yw];have w1:IntKind.i64.wrap ((p.cells.length:Int)+p.mutexes)=p.cells.length+p.mutexes:=wrap_i64 (by omega) (by omega);have w2:IntKind.i64.wrap ((p.cells.length:Int)+p.mutexes+p.sems.length)=p.cells.length+p.mutexes+p.sems.length:=wrap_i64 (by omega) (by omega);have w3:IntKind.i64.wrap ((p.cells.length:Int)+p.mutexes+p.sems.length+k)=p.cells.length+p.mutexes+p.sems.length+k:=wrap_i64 (by omega) (by omega);simp[w1,w2,w3];exact hR _ (.pure rfl (.refl _))
theorem Objects_ok (p:Pg) (hp:PgSmall p):Ql TC 16 [Yw p] (.int .i64 (WX p 0+p.threads.length)):=by
 have h1:=hp.threads;have h2:=hp.cells;have h3:=hp.mutexes;have h4:=hp.sems;have hst:=yq p hp 0 ⟨by omega,by omega⟩;rw[Yw] at hst;have w1:IntKind.i64.wrap (WX p 0+p.threads.length)=WX p 0+p.threads.length:=by unfold WX;exact wrap_i64 (by omega) (by omega)
 refine ent Tryz.func16 fun L K hL hR hN hP=>?_;simp[Yw];refine Qc hst ?_;simp[w1];exact hR _ (.pure rfl (.refl _))
end Go.Awp.R1
