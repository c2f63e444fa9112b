/- Code: a program of a tree and its table. -/
import Derived.Test.YtnielafbkgpgjaaGreatDoorX28
set_option linter.all false
set_option maxRecDepth 100000
set_option maxHeartbeats 8000000
namespace Go.Awp.R1
open Go Go.Awp Go.Proofs Go.Awp.Sp
theorem jn:QQ TC.P 35=some (.agg [.snil,.snil,.int .i64 0,.snil,.int .i64 0]):=by kernel_rfl
def wL:V:=.agg [.slice [],.slice [],.int .i64 0,.slice [],.int .i64 0]
def jh:Option Pg->V
 | some p=>.tup [Yw p,.int .i64 0]
 | none=>.tup [wL,.int .i64 2]
theorem Waq {ts:Qp} {rs:List (List Bs)} {ds:List Dc} {j:Nat} {d:Dc} (h:ds[j]? = some d) (p:Pg):XO ts rs p (ds.drop j) =
 if d.sort=0 then XO ts rs { p with cells:=p.cells++[d.num] } (ds.drop (j+1))
 else if d.sort=1 then XO ts rs { p with cells:=p.cells++List.replicate (lenOf ts d.name).toNat zero } (ds.drop (j+1))
 else if d.sort=2 then XO ts rs { p with mutexes:=p.mutexes+1 } (ds.drop (j+1))
 else if d.sort=3 then XO ts rs { p with sems:=p.sems++[d.num.re] } (ds.drop (j+1))
 else if d.sort=5 then
  if 200<(insL ts (rs.getD p.threads.length []) 0 d.body).length then none else XO ts rs { p with threads:=p.threads++[⟨insL ts (rs.getD p.threads.length []) 0 d.body,rs.getD p.threads.length []⟩] } (ds.drop (j+1))
 else XO ts rs p (ds.drop (j+1)):=by
 have hk:j<ds.length:=(gS h).1;have he:ds[j]=d:=(gS h).2;rw[List.drop_eq_getElem_cons hk,XO,he]
theorem QYw (m:Id) (t:Sp.Table) (regs:List Bs) (hrl:regs.length<=1000000) (n:Nat) (l:List St) (hn:okB n l) (hlen:(insL t.things regs 0 l).length<=1000000):
 AFn TC 62 [.ptr m 0,.slice (Qr l)] [(m,.cells 153 (Wb t regs .snil))]
  fun L o σ'=>o = .ret (.tup [])/\σ' = mS ⟨m,(L,0)⟩ t regs (insL t.things regs 0 l):=by
 have hi0:(⟨(0,0),(0,1)⟩:MIds).Ok:=⟨by decide⟩
 have hlen0:([]++insL t.things regs ([]:List Ins).length l).length<=1000000:=by simpa using hlen
 refine yo (id:=m) (o:=7) (el:=63) (sz:=7) (by simp[Qa.get];exact⟨rfl,rfl⟩) rfl (by decide) (uL _ hi0 t regs hrl n l [] hn hlen0).1 fun L hL=>?_;have l1:=hL m (by simp[Qa.keys]);have hi:(⟨m,(L,0)⟩:MIds).Ok:=⟨fun e=>Nat.lt_irrefl L (by have e:m=(L,0):=e;rw[e] at l1;exact l1)⟩
 have h:=uL _ hi t regs hrl n l [] hn hlen0;simp only[List.nil_append,List.length_nil] at h;refine QIz h ?_ ?_ ?_
 ·intro x hx;simp[mS,Wb] at hx ⊢;rcases hx with rfl|rfl<;>simp
 ·intro x hx;simp[Qa.keys,mS] at hx ⊢;rcases hx with rfl|rfl<;>simp
 ·have:=hi.n1;simp[mS,Qa.keys];exact this
theorem zero153:QQ TC.P 153=some (.agg [.mnil,.int .i64 0,.int .i64 0,.snil,.snil,.int .i64 0,.snil,.snil]):=by kernel_rfl
theorem Make_ok (t:Sp.Table) (ds:List Dc) (hk:MkOk t ds):Ql TC 33 [.agg [.slice (ds.map QO)],Ux t] (jh (zI t ds)):=by
 refine ADet.down (ex:=[15,19]) ?_;have hz:=jn;have hmt:=Zg;have hdl:=hk.len;refine ent Tryz.func33 fun L K hL hR hN hP=>?_;simp[Ux,hz];refine Qw (Xf (id:=(L,3)) (o:=0) (el:=41) (sz:=2) (by simp[Qa.get];exact⟨rfl,rfl⟩) rfl (by decide)) ?_;refine Qw (Xf (id:=(L,3)) (o:=1) (el:=82) (sz:=1) (by simp[Qa.get];exact⟨rfl,rfl⟩) rfl (by decide)) ?_;refine Qw (Xf (id:=(L,3)) (o:=3) (el:=3) (sz:=1) (by simp[Qa.get];exact⟨rfl,rfl⟩) rfl (by decide)) ?_
 let TV:V:=.agg [.mapv (WD t.things) (Wv t.things),.int .i64 t.objects,.int .i64 t.first,.slice (t.threads.map encS),.slice (t.regs.map fun r=>.slice (r.map encS)),.int .i64 t.budget]
 refine QB (α:=Nat × Pg × Nat) (fun x=>x.1<=ds.length/\XO t.things t.regs ⟨[],[],0,[],t.budget⟩ ds=XO t.things t.regs x.2.1 (ds.drop x.1)/\x.2.1.cells.length<=8*x.1/\x.2.1.sems.length<=x.1/\0<=x.2.1.mutexes/\x.2.1.mutexes<=x.1/\x.2.1.threads.length<=x.1/\x.2.1.threads.length+((ds.drop x.1).filter fun d=>d.sort == 5).length<=t.regs.length/\x.2.1.budget=t.budget)
  (fun x=>[(3,.ptr (L,1) 0),(4,.ptr (L,2) 0),(6,.ptr (L,3) 0),(14,.slice (ds.map QO)),(15,.int .i64 ds.length),(16,.int .i64 (x.1:Int))])
  (fun x=>[((L,3),.cells 35 [.vec (L,4) x.2.1.threads.length,.vec (L,5) x.2.2,.int .i64 x.2.1.mutexes,.vec (L,6) x.2.1.sems.length,.int .i64 t.budget]),((L,4),.vec 41 2 (x.2.1.threads.map XA) x.2.1.threads.length true),((L,5),.vec 82 1 (x.2.1.cells.map Qu) x.2.2 true),((L,6),.vec 3 1 (x.2.1.sems.map fun n=>.int .i64 n) x.2.1.sems.length true),((L,2),.cells 35 [.snil,.snil,.int .i64 0,.snil,.int .i64 0]),((L,1),.cells 94 [.mapv (WD t.things) (Wv t.things),.int .i64 t.objects,.int .i64 t.first,.slice (t.threads.map encS),.slice (t.regs.map fun r=>.slice (r.map encS)),.int .i64 t.budget])])
  (fun x=>ds.length - x.1) (0,⟨[],[],0,[],t.budget⟩,0) ⟨by simp,by simp,by simp,by simp,by simp,by simp,by simp,by simpa using hk.regs,by simp⟩ twk ?_
 rintro⟨j,p,vc⟩ L1 K1 ⟨hj,hq,hcl,hsl,hm0,hm1,htl,hth,hbu⟩ hL1 - hnext hex hrt - -;have hLL:L<L1:=hL1;simp at hj hq hcl hsl hm0 hm1 htl hth hbu;simp;refine Qv.mk (fun hb=>?_) fun hb=>?_
 ·have hjl:j<ds.length:=by simp at hb;omega
  obtain⟨d,hd2⟩:=gE hjl;have e1:(0:Int)<=(j:Int):=by omega
  have e2:(j:Int)<ds.length:=by omega
  have w1:=wr2 j;have hdm:=List.mem_of_getElem? hd2;have hdr:=Waq (ts:=t.things) (rs:=t.regs) hd2 p;rw[hdr] at hq;have hzm:=hk.num d hdm;have hti:=ZQ (QD hzm.1);have m4:¬ L1=L:=by omega
  have m5:¬ L=L1:=by omega
  have hdd:ds.drop j=d::ds.drop (j+1):=by
   rw[List.drop_eq_getElem_cons hjl];have he:ds[j]=d:=(gS hd2).2;rw[he]
  simp[e1,hd2,QO,Qu];by_cases h0:d.sort=0
  ·rw[if_pos h0] at hq;have hb0:(d.sort == 0)=true:=by simp[h0]
   have c1:p.cells.length<=9223372036854775806:=by omega
   have c2:(p.cells.length+1)*16<=140737488355328:=by omega
   simp[hb0,c1,c2,w1,m4];refine hnext _ (j+1,{ p with cells:=p.cells++[d.num] },vc+1) ⟨by omega,hq,by simp;omega,by simp;omega,by simp;omega,by simp;omega,by simp;omega,?_,hbu⟩ (by simp;omega) (Qb (by simp) (by simp[Qu]) (by simp[m4]));rw[hdd] at hth;simp[h0] at hth;exact hth
  rw[if_neg h0] at hq;have hb0:(d.sort == 0)=false:=by simp[h0]
  simp[hb0];by_cases h1:d.sort=1
  ·rw[if_pos h1] at hq;have hb1:(d.sort == 1)=true:=by simp[h1]
   obtain⟨le,hle⟩:∃ le:Int,le=lenOf t.things d.name:=⟨_,rfl⟩
   obtain⟨y,hy1,hy3⟩:∃ y:Zq,XS TC.P 91 (WD t.things) (Wv t.things) (.str (bs d.name)) false=some (Wa y)/\y.len=le:=by
    cases hlk:t.things.lookup d.name with
    | none=>exact⟨⟨0,0,0,⟨0,0⟩⟩,by rw[jV hlk];simp[YS,Wa,Qu,WZ],by rw[hle];unfold lenOf;rw[hlk];rfl⟩
    | some y=>exact⟨y,by rw[jU hlk];rfl,by rw[hle];unfold lenOf;rw[hlk];rfl⟩
   simp[Wa,Qu,-XS] at hy1;have hln:=hk.lens d.name;rw[<- hle] at hln hq;have c1:p.cells.length+le.toNat<=9223372036854775807:=by omega
   have c2:(p.cells.length+le.toNat)*16<=140737488355328:=by omega
   have hst3:Qo TC.P 3 = .int .i64:=by kernel_rfl
   have hln0:0<=y.len:=by omega
   simp[hb1,hy1,hy3,hst3,hln.1,c1,c2,-XS,w1,m4];refine hnext _ (j+1,{ p with cells:=p.cells++List.replicate le.toNat zero },vc+1) ⟨by omega,hq,by simp;omega,by simp;omega,by simp;omega,by simp;omega,by simp;omega,?_,hbu⟩ (by simp;omega) (Qb (by simp) (by simp[Qu,zero,WZ]) (by simp[m4]));rw[hdd] at hth;simp[h1] at hth;exact hth
  rw[if_neg h1] at hq;have hb1:(d.sort == 1)=false:=by simp[h1]
  simp[hb1];by_cases h2:d.sort=2
  ·rw[if_pos h2] at hq;have hb2:(d.sort == 2)=true:=by simp[h2]
   have w2:IntKind.i64.wrap (p.mutexes+1)=p.mutexes+1:=wrap_i64 (by omega) (by omega);simp[hb2,w1,w2,m4];refine hnext _ (j+1,{ p with mutexes:=p.mutexes+1 },vc) ⟨by omega,hq,by simp;omega,by simp;omega,by simp;omega,by simp;omega,by simp;omega,?_,hbu⟩ (by simp;omega) (twk (hn:=by simp[m4]));rw[hdd] at hth;simp[h2] at hth;exact hth
  rw[if_neg h2] at hq;have hb2:(d.sort == 2)=false:=by simp[h2]
  simp[hb2];by_cases h3:d.sort=3
  ·rw[if_pos h3] at hq;have hb3:(d.sort == 3)=true:=by simp[h3]
   have c1:p.sems.length<=9223372036854775806:=by omega
   have c2:(p.sems.length+1)*8<=140737488355328:=by omega
   simp[hb3,hti,c1,c2,w1,m4];refine hnext _ (j+1,{ p with sems:=p.sems++[d.num.re] },vc) ⟨by omega,hq,by simp;omega,by simp;omega,by simp;omega,by simp;omega,by simp;omega,?_,hbu⟩ (by simp;omega) (twk (hn:=by simp[m4]));rw[hdd] at hth;simp[h3] at hth;exact hth
  rw[if_neg h3] at hq;have hb3:(d.sort == 3)=false:=by simp[h3]
  simp[hb3];by_cases h5:d.sort=5
  ·rw[if_pos h5] at hq;have hb5:(d.sort == 5)=true:=by simp[h5]
   rw[hdd] at hth;simp[h5] at hth;have hreg:p.threads.length<t.regs.length:=by omega
   obtain⟨r,hr⟩:∃ r,t.regs[p.threads.length]? = some r:=⟨_,List.getElem?_eq_getElem hreg⟩
   have hrd:t.regs.getD p.threads.length []=r:=by rw[List.getD_eq_getElem?_getD,hr]<;>rfl
   rw[hrd] at hq;have hr8:=hk.reg8 r (List.mem_of_getElem? hr);obtain⟨nb,hnb⟩:=hk.body d hdm;have hcn:=hk.cnt d hdm;have hil:=qZ t.things r d.body 0;simp[hb5];refine QJ [] (by kernel_rfl) ?_;have hrv:t.regs[p.threads.length]=r:=(gS hr).2;have hz3:=zero153;simp[hrv,hreg,hz3,m4];refine⟨fun q hq=>(by cases hq),?_⟩;have hcall:=QYw (L1,1) t r (by omega) nb d.body hnb (by omega);refine Qe.gen (AFn.ctx (C:=TC) (C':=TCe [15,19]) rfl rfl hcall) ?_ (by simp[Qa.keys]) (by decide) rfl ?_ ?_
   ·simp[Wb]
   ·rintro L2 v σ' hL2 - ⟨hv,rfl⟩;cases hv;have hLL2:L1<L2:=hL2;have m6:¬ L2=L:=by omega
    have m7:¬ L=L2:=by omega
    have m8:¬ L2=L1:=by omega
    have m9:¬ L1=L2:=by omega
    obtain⟨code,hcode⟩:∃ code,insL t.things r 0 d.body=code:=⟨_,rfl⟩
    rw[hcode] at hq hil;rw[hcode];simp[mS,Wb,m5,m9];refine Qv.mk (fun hb=>?_) fun hb=>?_
    ·have hgt:200<code.length:=by simp at hb;omega
     rw[if_pos hgt] at hq;have hce:zI t ds=none:=hq;simp[hz,m4];refine hrt _ ?_;refine hR _ ?_;refine .pures (by simp[Qf,Qj,m4];rfl) (by simp) ?_;rw[hce];exact .tup (.cons (.agg (.cons .snil (.cons .snil (.cons (.refl _) (.cons .snil (.cons (.refl _) .nil)))))) (.cons (.refl _) .nil))
    ·have hgt:¬ 200<code.length:=by simp at hb;omega
     rw[if_neg hgt] at hq;simp;refine Qw (Vg (τ':=[(9,.ptr (L1,1) 0),(3,.ptr (L,1) 0),(4,.ptr (L,2) 0),(6,.ptr (L,3) 0),(14,.slice (ds.map QO)),(15,.int .i64 ds.length),(16,.int .i64 (j:Int))])
      (σ':=[((L1,1),.cells 153 (Wb t r (.slice (code.map QM)))),((L,3),.cells 35 [.vec (L,4) p.threads.length,.vec (L,5) vc,.int .i64 p.mutexes,.vec (L,6) p.sems.length,.int .i64 t.budget]),((L,4),.vec 41 2 (p.threads.map XA) p.threads.length true),((L,5),.vec 82 1 (p.cells.map Qu) vc true),((L,6),.vec 3 1 (p.sems.map fun n=>.int .i64 n) p.sems.length true),((L,2),.cells 35 [.snil,.snil,.int .i64 0,.snil,.int .i64 0]),((L,1),.cells 94 [.mapv (WD t.things) (Wv t.things),.int .i64 t.objects,.int .i64 t.first,.slice (t.threads.map encS),.slice (t.regs.map fun r=>.slice (r.map encS)),.int .i64 t.budget])])
      [((L2,0),.vec 63 7 (code.map QM) code.length true)]
      [((L1,1),.cells 153 (Wb t r (.vec (L2,0) code.length))),((L,3),.cells 35 [.vec (L,4) p.threads.length,.vec (L,5) vc,.int .i64 p.mutexes,.vec (L,6) p.sems.length,.int .i64 t.budget]),((L,4),.vec 41 2 (p.threads.map XA) p.threads.length true),((L,5),.vec 82 1 (p.cells.map Qu) vc true),((L,6),.vec 3 1 (p.sems.map fun n=>.int .i64 n) p.sems.length true),((L,2),.cells 35 [.snil,.snil,.int .i64 0,.snil,.int .i64 0]),((L,1),.cells 94 [.mapv (WD t.things) (Wv t.things),.int .i64 t.objects,.int .i64 t.first,.slice (t.threads.map encS),.slice (t.regs.map fun r=>.slice (r.map encS)),.int .i64 t.budget])] ?_ ?_ ?_ ?_ ?_ ?_) ?_
     ·simp;exact⟨.refl _,.refl _,.refl _,.refl _,.refl _,.refl _,.refl _⟩
     ·simp[Wb]
     ·simp
     ·simp[Qa.keys,m4]
     ·simp[Qa.keys,m6,m7,m8,m9]
     ·exact .cons (.cells (.cons (.refl _) (.cons (.refl _) (.cons (.refl _) (.cons (.refl _) (.cons (.refl _) (.cons (.refl _) (.cons (.refl _) (.cons (.vec (t:=63) (s:=7) (es:=code.map QM) (wr:=true) (by simp[Qa.get]) (Qn _)) .nil))))))))) (.refl _)
     refine QJ [] (by kernel_rfl) ?_;have c1:p.threads.length<=9223372036854775806:=by omega
     have c2:(p.threads.length+1)*48<=140737488355328:=by omega
     simp[Wb,c1,c2,m4];refine⟨fun q hq=>(by cases hq),?_⟩;simp[w1];refine hnext _ (j+1,{ p with threads:=p.threads++[⟨code,r⟩] },vc) ⟨by omega,hq,by simp;omega,by simp;omega,by simp;omega,by simp;omega,by simp;omega,by simp;omega,hbu⟩ (by simp;omega) (Qb (by simp) (by simp[XA]) (by simp[m4]))
   ·rintro L2 v σ' - - ⟨hv,_⟩;cases hv
  rw[if_neg h5] at hq;have hb5:(d.sort == 5)=false:=by simp[h5]
  simp[hb5,w1];refine hnext _ (j+1,p,vc) ⟨by omega,hq,by simp;omega,by simp;omega,by simp;omega,by simp;omega,by simp;omega,?_,hbu⟩ (by simp;omega) (twk (hn:=by simp[m4]));rw[hdd] at hth;simp[h5] at hth;exact hth
 ·have hjl:j=ds.length:=by simp at hb;omega
  subst hjl;rw[List.drop_length,XO] at hq;simp;refine hex _ _ ?_;simp;have hce:zI t ds=some p:=hq;refine hR _ ?_;refine .keeps [((L,4),.vec 41 2 (p.threads.map XA) p.threads.length true),((L,5),.vec 82 1 (p.cells.map Qu) vc true),((L,6),.vec 3 1 (p.sems.map fun n=>.int .i64 n) p.sems.length true)] [] (by simp[Qf,Qj];rfl) (by simp) (by simp) (by simp) (by simp[Qa.keys]) (by simp[Qa.keys]) ?_ ⟨rfl,rfl⟩;rw[hce,jh,Yw,hbu];refine .tup (.cons (.agg (.cons (.vec (t:=41) (s:=2) (es:=p.threads.map XA) (wr:=true) (by simp[Qa.get]) (Qn _)) (.cons (.vec (t:=82) (s:=1) (es:=p.cells.map Qu) (wr:=true) (by simp[Qa.get]) (Qn _)) (.cons (.refl _) (.cons (.vec (t:=3) (s:=1) (es:=p.sems.map fun n=>.int .i64 n) (wr:=true) (by simp[Qa.get]) (Qn _)) (.cons (.refl _) .nil)))))) (.cons (.refl _) .nil))
theorem depth_q:∀ (n:Nat) (e:Ex),n<=1000000->okE n e->Ql TC 147 [Qh e] (.int .i64 (WA e:Nat))
 | 0,_,_,h=>h.elim
 | n+1,.mk op num name ps,hn,h=>by
   have ih:=fun e he=>depth_q n e (by omega) he;obtain⟨hlen,hall⟩:=h;have hd:=Jo (n+1) (.mk op num name ps) ⟨hlen,hall⟩;rw[WA] at hd;have hm:Qm ps=ps.map Qh:=Wj ps;refine ent Tryz.func147 fun L K hL hR hN hP=>?_;simp[Qh,hm];refine QB (α:=Nat) (fun k=>k<=ps.length) (fun k=>[(3,.int .i64 (1+Xv (ps.take k):Nat)),(7,.slice (ps.map Qh)),(8,.int .i64 ps.length),(9,.int .i64 (k:Int))]) (fun _=>[]) (fun k=>ps.length - k) 0 (by simp) (Qb (by simp[Xv]) (by simp) (by simp)) ?_;rintro k L1 K1 hk hL1 - hnext hex hrt - -;simp;refine Qv.mk (fun hb=>?_) fun hb=>?_
   ·have hkl:k<ps.length:=by simpa using hb
    have hx:ps[k]? = some ps[k]:=List.getElem?_eq_getElem hkl;have hmem:ps[k]∈ps:=List.getElem_mem hkl;generalize ps[k]=e at hx hmem;have hcall:=ih e (hall e hmem);have hed:=Jo n e (hall e hmem);have htk:Xv (ps.take (k+1))=max (Xv (ps.take k)) (WA e):=by
     rw[List.take_add_one,hx];exact vq _ _
    have w1:=wr2 k;have w2:IntKind.i64.wrap (1+(WA e:Int))=1+(WA e:Int):=wrap_i64 (by omega) (by omega);obtain⟨op',num',name',ps'⟩:=e;simp[hx,Qh];refine Qc hcall ?_;simp[w1,w2];refine hnext _ (k+1) (by omega) (by omega) (Qb (by simp[htk];split<;>omega) (by simp) (by simp))
   ·have hkl:k=ps.length:=by simp at hb;omega
    subst hkl;refine hex _ _ ?_;simp;refine hR _ (.pure rfl ?_);rw[WA,Nat.add_comm];exact .refl _
theorem VT:∀ f,(∀ k s e s',QOk s->exM f k s=some (e,s')->QOk s')/\(∀ k e0 s e s',QOk s->chM f k e0 s=some (e,s')->QOk s')
 | 0=>⟨fun k s e s' _ h=>(by rw[exM] at h;cases h),fun k e0 s e s' _ h=>(by rw[chM] at h;cases h)⟩
 | f+1=>by
   obtain⟨ih1,ih2⟩:=VT f;refine⟨fun k s e s' hs h=>?_,fun k e0 s e s' hs h=>?_⟩
   ·rw[exM] at h;split at h
    ·split at h
     ·cases h
     ·rename_i e1 s1 h1;exact ih2 _ _ _ _ _ (ih1 _ _ _ _ hs h1) h
    ·split at h
     ·split at h
      ·rename_i op hop;split at h
       ·cases h
       ·rename_i e1 s1 h1;cases h;exact ih1 _ _ _ _ (hs.next (ZM hop)) h1
      ·split at h
       ·rename_i h2;cases h;exact hs.next (by rw[h2];decide)
       ·split at h
        ·rename_i hb;split at h
         ·cases h
         ·rename_i e1 s1 h1;cases h;exact (ih1 _ _ _ _ (hs.next (QC hb)) h1).need _
        ·cases h;exact hs.name
     ·cases h;exact hs.name
   ·rw[chM] at h;split at h
    ·split at h
     ·split at h
      ·cases h;exact hs
      ·rename_i op hop;split at h
       ·cases h
       ·rename_i e1 s1 h1;cases h;exact ih1 _ _ _ _ (hs.next (YR hop)) h1
     ·cases h;exact hs
    ·split at h
     ·rename_i hc;split at h
      ·cases h
      ·rename_i e1 s1 h1;exact ih2 _ _ _ _ _ (ih1 _ _ _ _ (hs.next (by rw[hc.2.1];decide)) h1) h
     ·cases h;exact hs
def OneQ (f:Nat):Prop:=∀ s e s',QOk s->exM f 3 s=some (e,s')->AQ 201 [] s (Qh e) s'
def ProdQ (f:Nat):Prop:=∀ s e s',QOk s->exM f 2 s=some (e,s')->AQ 187 [] s (Qh e) s'
def SumQ (f:Nat):Prop:=∀ s e s',QOk s->exM f 1 s=some (e,s')->AQ 171 [] s (Qh e) s'
def ExprQ (f:Nat):Prop:=∀ s e s',QOk s->exM f 0 s=some (e,s')->AQ 146 [] s (Qh e) s'
def PartQ (pf:FuncId) (g k:Nat):Prop:=∀ s e s',QOk s->exM g (k+1) s=some (e,s')->AQ pf [] s (Qh e) s'
structure XQ where
 g:Nat
 e:Ex
 s:QS
structure JQ (f k:Nat) (e:Ex) (s':QS) (x:XQ):Prop where
 ok:QOk x.s
 g:x.g<=f
 res:chM x.g k x.e x.s=some (e,s')
theorem chain_q (pf:FuncId) (f k:Nat) (hk:k=1∨k=2) (hpart:∀ g,g<=f->PartQ pf g k) (s:QS) (e:Ex) (s':QS) (hs:QOk s) (h:(match exM f (k+1) s with|none=>none|some (e0,s1)=>chM f k e0 s1)=some (e,s')) (p:Id):
 ADet TC 186 [.ptr p 0,.func (.func pf) [.ptr p 0] [],.slice ((QE k).map encS)] [(p,qblk s)] (.ret (Qh e)) [(p,qblk s')]:=by
 refine ADet.down (ex:=[5]) ?_;have hlv:(QE k).length<=1000000:=by rcases hk with rfl|rfl<;>decide
 rcases h0:exM f (k+1) s with _|⟨e0,s1⟩
 ·rw[h0] at h;cases h
 rw[h0] at h;have h:chM f k e0 s1=some (e,s'):=h;have hcall:=ADet.up (ex:=[5]) (hpart f (Nat.le_refl _) s e0 s1 hs h0 p);have hs1:=(VT f).1 _ _ _ _ hs h0;refine ent Tryz.func186 fun L K hL hR hN hP=>?_;have hpL:p.1<L:=hL p (by simp[Qa.keys]);have ne1:¬ (L,0)=p:=fun e=>by rw[<- e] at hpL;exact Nat.lt_irrefl _ hpL
 have ne2:¬ p=(L,0):=fun e=>ne1 e.symm;have q1:¬ (L,1)=p:=fun e=>by rw[<- e] at hpL;exact Nat.lt_irrefl _ hpL
 have q2:¬ p=(L,1):=fun e=>q1 e.symm;simp;refine Qe.det hcall ?_ (by simp[Qa.keys]) (by decide) rfl (fun v hv=>?_) (fun v hv=>by cases hv)
 ·simp
 cases hv;obtain⟨eo,en,em,ep⟩:=e0;simp[Qh,ne1];refine QB (α:=XQ) (JQ f k e s') (fun x=>[(0,.ptr p 0),(1,.func (.func pf) [.ptr p 0] []),(2,.slice ((QE k).map encS)),(6,.ptr (L,0) 0),(7,.ptr (L,1) 0)]) (fun x=>[((L,1),.cells 192 (Zl x.e)),((L,0),.cells 192 [.str (bs []),.cplx .f64 0 0,.str (bs []),.snil]),(p,qblk x.s)]) (fun x=>x.g) ⟨f,.mk eo en em ep,s1⟩ ⟨hs1,Nat.le_refl _,h⟩ (Qb (by simp) (by simp[Zl]) (by simp[ne1,q1])) ?_;rintro⟨g,⟨fo,fn,fm,fp⟩,⟨l,pos,code⟩⟩ L1 K1 ⟨hok,hgf,hres⟩ hL1 - hnext hex hrt - hpn;simp only at hok hgf hres;have hLL:L<L1:=hL1;obtain⟨t,r,rfl,ht,htk⟩:=TokL.cons hok.tok;have htake:(r.map Qg).take r.length=r.map Qg:=List.take_of_length_le (by simp);cases g with
 | zero=>rw[chM] at hres;cases hres
 | succ g=>
 have hk0:k≠0:=by omega
 rw[chM,if_neg hk0] at hres;simp only[ht] at hres;have fin:¬ (code=0/\t.kind=3/\(QE k).contains t.text=true)->∀ s3:ASt,Qf TC.P s3 [.cell 6 192]=some [Qh (.mk fo fn fm fp)]->(p,qblk ⟨t::r,pos,code⟩)∈s3.σ->K .ret s3:=fun hc s3 h1 h2=>by
  rw[if_neg hc] at hres;cases hres;exact hR s3 (.keep [] [(p,qblk ⟨t::r,pos,code⟩)] h1 (by simpa using h2) (by simp) (by simp[Qa.keys]) (by simp[Qa.keys]) (.refl _) ⟨rfl,rfl⟩)
 have hnx:=ADet.up (ex:=[5]) (Zf ⟨t::r,pos,code⟩ hok.tok p);simp only[ht] at hnx;simp[Zl,qblk,Qg,ne1,q1];by_cases hc:code=0
 ·have hcb:(code == 0)=true:=by simp[hc]
  simp[hcb];refine Qe.det hnx ?_ (by simp[Qa.keys]) (by decide) rfl (fun v hv=>?_) (fun v hv=>by cases hv)
  ·simp[qblk,Qg]
  cases hv;simp[Qg];rcases hk3:(t.kind == 3)
  ·have h3:¬ t.kind=3:=by simpa using hk3
   simp;refine hex _ _ ?_;simp[ne1,ne2,q1,q2];exact fin (fun h=>h3 h.2.1) _ (by simp[Qf,Qj,ne2,Qh]) (by simp)
  ·have h3:t.kind=3:=by simpa using hk3
   simp;refine Qe.det hnx ?_ (by simp[Qa.keys]) (by decide) rfl (fun v hv=>?_) (fun v hv=>by cases hv)
   ·simp[qblk,Qg]
   cases hv;simp[Qg];refine Qe.pure (UH (QE k) t.text hlv).up (by decide) ?_;rcases hcn:(QE k).contains t.text
   ·simp;refine hex _ _ ?_;simp[ne1,ne2,q1,q2];exact fin (fun h=>by rw[hcn] at h;exact Bool.noConfusion h.2.2) _ (by simp[Qf,Qj,ne2,Qh]) (by simp)
   ·rw[if_pos ⟨hc,h3,hcn⟩] at hres;have hnext':QOk ⟨r,pos,code⟩:=hok.next (by rw[ht,h3];decide)
    simp;refine Qe.det hnx ?_ (by simp[Qa.keys]) (by decide) rfl (fun v hv=>?_) (fun v hv=>by cases hv)
    ·simp[qblk,Qg]
    cases hv;simp[qblk,Qg,htake,ne1,q1];have hres:(match exM g (k+1) ⟨r,pos,code⟩ with|none=>none|some (e2,s2)=>chM g k (.mk t.text zero [] [.mk fo fn fm fp,e2]) s2)=some (e,s'):=hres;rcases h2:exM g (k+1) ⟨r,pos,code⟩ with _|⟨e2,s2⟩
    ·rw[h2] at hres;cases hres
    rw[h2] at hres;have hcall2:=ADet.up (ex:=[5]) (hpart g (by omega) ⟨r,pos,code⟩ e2 s2 hnext' h2 p);refine Zr 3 [7] [(p,qblk ⟨r,pos,code⟩)] [(p,qblk s2)] (Qh e2) rfl (by kernel_rfl) (by simp[Qa.keys]) (by simp[Qa.keys]) (by simp[Qa.keys]) ?_;simp[q2];refine DetS.of rfl rfl rfl rfl rfl hcall2 rfl (by simp[qblk]) ?_;obtain⟨so,sn,sm,sp⟩:=e2;simp[ne1,q1,q2,AOut.val,ASt.putD,Qh];refine⟨?_,?_⟩
    ·intro t ht v hv id hid;simp at ht;subst ht;simp at hv;subst hv;simp[Qq] at hid;subst hid;simpa[Qa.keys] using q1
    ·exact hnext _ ⟨g,.mk t.text zero [] [.mk fo fn fm fp,.mk so sn sm sp],s2⟩ ⟨(VT g).1 _ _ _ _ hnext' h2,by simp only;omega,hres⟩ (by simp) (Qb (by simp) (by simp[Zl,Qh,Qm,zero,fz0]) (by simp[ne1,q1]))
 ·have hcb:(code == 0)=false:=by simp[hc]
  simp[hcb];refine hex _ _ ?_;simp;exact fin (fun h=>hc h.1) _ (by simp[Qf,Qj,Qh]) (by simp[qblk,Qg])
theorem prod_q (f:Nat) (ho:∀ g,g<=f->OneQ g):ProdQ (f+1):=by
 intro s e s' hs h p;rw[exM,if_pos (by omega)] at h;have hcall:=chain_q 201 f 2 (.inr rfl) (fun g hg=>ho g hg) s e s' hs h p;refine ent Tryz.func187 fun L K hL hR hN hP=>?_;have hpL:p.1<L:=hL p (by simp[Qa.keys]);have ne1:¬ (L,0)=p:=fun e=>by rw[<- e] at hpL;exact Nat.lt_irrefl _ hpL
 have ne2:¬ p=(L,0):=fun e=>ne1 e.symm;simp;refine Qe.det hcall ?_ (by simp[Qa.keys]) (by decide) rfl (fun v hv=>?_) (fun v hv=>by cases hv)
 ·simp
 cases hv;obtain⟨eo,en,em,ep⟩:=e;simp[Qh,ne1,ne2];exact hR _ (.keep [] [(p,qblk s')] (by simp[Qf,Qj,ne2];rfl) (by simp) (by simp) (by simp[Qa.keys]) (by simp[Qa.keys]) (.refl _) ⟨by simp[Qh],rfl⟩)
theorem sum_q (f:Nat) (ho:∀ g,g<=f->ProdQ g):SumQ (f+1):=by
 intro s e s' hs h p;rw[exM,if_pos (by omega)] at h;have hcall:=chain_q 187 f 1 (.inl rfl) (fun g hg=>ho g hg) s e s' hs h p;refine ent Tryz.func171 fun L K hL hR hN hP=>?_;have hpL:p.1<L:=hL p (by simp[Qa.keys]);have ne1:¬ (L,0)=p:=fun e=>by rw[<- e] at hpL;exact Nat.lt_irrefl _ hpL
 have ne2:¬ p=(L,0):=fun e=>ne1 e.symm;simp;refine Qe.det hcall ?_ (by simp[Qa.keys]) (by decide) rfl (fun v hv=>?_) (fun v hv=>by cases hv)
 ·simp
 cases hv;obtain⟨eo,en,em,ep⟩:=e;simp[Qh,ne1,ne2];exact hR _ (.keep [] [(p,qblk s')] (by simp[Qf,Qj,ne2];rfl) (by simp) (by simp) (by simp[Qa.keys]) (by simp[Qa.keys]) (.refl _) ⟨by simp[Qh],rfl⟩)
theorem qp {w:Bs} {s:QS} (h:(QF w s).1=true):s.code=0/\(hd s.l).isB w=true/\QF w s=(true,s.next):=by
 unfold QF at h ⊢;split at h
 ·rename_i hc;rw[if_pos hc];exact⟨hc.1,hc.2,rfl⟩
 ·cases h
theorem Ug {w:Bs} {s:QS} (h:(QF w s).1=false):¬ (s.code=0/\(hd s.l).isB w=true)/\QF w s=(false,s):=by
 unfold QF at h ⊢;split at h
 ·cases h
 ·rename_i hc;rw[if_neg hc];exact⟨hc,rfl⟩
theorem expr_q (f:Nat) (ho:∀ g,g<=f->SumQ g):ExprQ (f+1):=by
 intro s e s' hs h p;refine ADet.down (ex:=[6]) ?_;rw[exM,if_pos (by omega)] at h;rcases h0:exM f (0+1) s with _|⟨e0,s1⟩
 ·rw[h0] at h;cases h
 rw[h0] at h;have h:chM f 0 e0 s1=some (e,s'):=h;have hcall:=ADet.up (ex:=[6]) (ho f (Nat.le_refl _) s e0 s1 hs h0 p);have hs1:=(VT f).1 _ _ _ _ hs h0;obtain⟨gl,hgl,hgl3,hglk⟩:∃ gl,(QE 0).map encS=gl/\gl.length=3/\∀ k,k<3->gl[k]? = some (V.str (bs ((QE 0).getD k []))):=⟨_,rfl,rfl,fun k hk=>by
  have:k=0∨k=1∨k=2:=by omega
  rcases this with rfl|rfl|rfl<;>rfl⟩
 have hgl:[V.str (bs [61,61]),V.str (bs [33,61]),V.str (bs [60])]=gl:=hgl;cases f with
 | zero=>rw[chM] at h;cases h
 | succ f=>
 rw[chM,if_pos rfl] at h;refine ent Tryz.func146 fun L K hL hR hN hP=>?_;have hpL:p.1<L:=hL p (by simp[Qa.keys]);have ne1:¬ (L,0)=p:=fun e=>by rw[<- e] at hpL;exact Nat.lt_irrefl _ hpL
 have ne2:¬ p=(L,0):=fun e=>ne1 e.symm;have q1:¬ (L,1)=p:=fun e=>by rw[<- e] at hpL;exact Nat.lt_irrefl _ hpL
 have q2:¬ p=(L,1):=fun e=>q1 e.symm;simp;refine Qe.det hcall ?_ (by simp[Qa.keys]) (by decide) rfl (fun v hv=>?_) (fun v hv=>by cases hv)
 ·simp
 cases hv;obtain⟨eo,en,em,ep⟩:=e0;simp[Qh,ne1];refine QB (α:=Nat) (fun k=>k<=3/\∀ j,j<k->¬ (s1.code=0/\(hd s1.l).isB ((QE 0).getD j [])=true)) (fun k=>[(0,.ptr p 0),(2,.ptr (L,0) 0),(3,.ptr (L,1) 0),(8,.slice gl),(9,.int .i64 3),(10,.int .i64 (k:Int))]) (fun _=>[((L,1),.cells 192 (Zl (.mk eo en em ep))),((L,0),.cells 192 [.str (bs []),.cplx .f64 0 0,.str (bs []),.snil]),(p,qblk s1)]) (fun k=>3 - k) 0 ⟨by omega,fun j h2=>by omega⟩ (Qb (by simp;exact hgl) (by simp[Zl]) (by simp[ne1,q1])) ?_;rintro k L1 K1 ⟨hk,hnone⟩ hL1 - hnext hex hrt - hpn;have hLL:L<L1:=hL1;simp[Zl];refine Qv.mk (fun hb=>?_) fun hb=>?_
 ·have hk3:k<3:=by simp at hb;omega
  obtain⟨w,hw⟩:∃ w,w=(QE 0).getD k []:=⟨_,rfl⟩
  have hx:=hglk k hk3;rw[<- hw] at hx;have hlv:∀ h:k<gl.length,gl[k]'h=V.str (bs w):=fun h=>by
   rw[List.getElem?_eq_getElem h] at hx;exact Option.some.inj hx
  simp[hlv,hgl3,hk3];refine Qe.det (ADet.up (Zt s1 hs1.tok w p)) ?_ (by simp[Qa.keys]) (by decide) rfl (fun v hv=>?_) (fun v hv=>by cases hv)
  ·simp
  cases hv;rcases htm:(QF w s1).1
  ·obtain⟨hno,htm2⟩:=Ug htm;have w1:=wr2 k;rw[htm2];simp[w1];exact hnext _ (k+1) ⟨by omega,fun j h2=>by
    by_cases e:j=k
    ·rw[e,<- hw];exact hno
    ·exact hnone j (by omega)⟩ (by omega) (Qb (by simp) (by simp[Zl,ne1,q1]) (by simp[ne1,q1]))
  ·obtain⟨hc,hb2,htm2⟩:=qp htm;have hany:Zp (hd s1.l) (QE 0)=some w:=QIw (k:=k) (fun j hj=>by
    have:=hnone j hj;rcases hx:(hd s1.l).isB ((QE 0).getD j []) with _|_
    ·rfl
    ·exact absurd ⟨hc,hx⟩ this) (by rw[hw];rcases (show k=0∨k=1∨k=2 by omega) with rfl|rfl|rfl<;>rfl) hb2
   rw[if_pos hc,hany] at h;have h:(match exM f 1 s1.next with|none=>none|some (e2,s)=>some (Ex.mk w zero [] [.mk eo en em ep,e2],s))=some (e,s'):=h;rcases h2:exM f 1 s1.next with _|⟨e2,s2⟩
   ·rw[h2] at h;cases h
   rw[h2] at h;have hnq:=hs1.next (QC hb2)
   have hcall2:=ADet.up (ex:=[6]) (ho f (by omega) s1.next e2 s2 hnq h2 p);rw[htm2];simp;refine Zr 3 [3] [(p,qblk s1.next)] [(p,qblk s2)] (Qh e2) rfl (by kernel_rfl) (by simp[Qa.keys]) (by simp[Qa.keys]) (by simp[Qa.keys]) ?_;simp[ne1,q1,q2];refine DetS.of rfl rfl rfl rfl rfl hcall2 rfl (by simp) ?_;obtain⟨so,sn,sm,sp⟩:=e2;simp[ne1,ne2,q1,AOut.val,ASt.putD,Qh];refine⟨?_,?_⟩
   ·intro t ht v hv id hid;simp at ht;subst ht;simp at hv;subst hv;simp[Qq] at hid;subst hid;simpa[Qa.keys] using q1
   ·cases h;refine hrt _ (hR _ (.keep [] [(p,qblk s')] (by simp[Qf,Qj,ne2];rfl) (by simp) (by simp) (by simp[Qa.keys]) (by simp[Qa.keys]) (.refl _) ⟨by simp[Qh,Qm,zero,fz0],rfl⟩))
 ·have hk3:k=3:=by simp at hb;omega
  subst hk3;refine hex _ _ ?_;simp;have hend:e = .mk eo en em ep/\s' = s1:=by
   by_cases hc:s1.code=0
   ·have hany:Zp (hd s1.l) (QE 0)=none:=vH fun j hj=>by
     have:=hnone j hj;rcases hx:(hd s1.l).isB ((QE 0).getD j []) with _|_
     ·rfl
     ·exact absurd ⟨hc,hx⟩ this
    rw[if_pos hc,hany] at h;cases h;exact⟨rfl,rfl⟩
   ·rw[if_neg hc] at h;cases h;exact⟨rfl,rfl⟩
  obtain⟨rfl,rfl⟩:=hend;exact hR _ (.keep [] [(p,qblk s')] (by simp[Qf,Qj];rfl) (by simp) (by simp) (by simp[Qa.keys]) (by simp[Qa.keys]) (.refl _) ⟨by simp[Qh],rfl⟩)
theorem one_q (f:Nat) (ho:OneQ f) (he:ExprQ f):OneQ (f+1):=by
 intro s e s' hs h p;refine ADet.down (ex:=[5]) ?_;rw[exM,if_neg (by omega)] at h;obtain⟨gl,hgl,hgl4,hglk⟩:∃ gl,[V.str (bs [45]),V.str (bs [126]),V.str (bs [33]),V.str (bs [35])]=gl/\gl.length=4/\∀ k,k<4->gl[k]? = some (V.str (bs (Yd.getD k default).1)):=⟨_,rfl,rfl,fun k hk=>by
  rcases nat4 hk with rfl|rfl|rfl|rfl<;>rfl⟩
 refine ent Tryz.func201 fun L K hL hR hN hP=>?_;have hpL:p.1<L:=hL p (by simp[Qa.keys]);have ne1:¬ (L,0)=p:=fun e=>by rw[<- e] at hpL;exact Nat.lt_irrefl _ hpL
 have ne2:¬ p=(L,0):=fun e=>ne1 e.symm;simp;refine QB (α:=Nat) (fun k=>k<=4/\∀ j,j<k->¬ (s.code=0/\(hd s.l).isB (Yd.getD j default).1=true)) (fun k=>[(0,.ptr p 0),(2,.ptr (L,0) 0),(6,.slice gl),(7,.int .i64 4),(8,.int .i64 (k:Int))]) (fun _=>[((L,0),.cells 192 [.str (bs []),.cplx .f64 0 0,.str (bs []),.snil]),(p,qblk s)]) (fun k=>4 - k) 0 ⟨by omega,fun j h2=>by omega⟩ (Qb (by simp;exact hgl) (by simp) (by simp[ne1])) ?_;rintro k L1 K1 ⟨hk,hnone⟩ hL1 - hnext hex hrt - hpn;have hLL:L<L1:=hL1;have m1:¬ (L1,0)=p:=fun e=>by rw[<- e] at hpL;simp at hpL;omega
 have m2:¬ p=(L1,0):=fun e=>m1 e.symm;simp;refine Qv.mk (fun hb=>?_) fun hb=>?_
 ·have hk4:k<4:=by simp at hb;omega
  obtain⟨w,hw⟩:∃ w,w=Yd.getD k default:=⟨_,rfl⟩
  have hx:=hglk k hk4;rw[<- hw] at hx;have hlv:∀ h:k<gl.length,gl[k]'h=V.str (bs w.1):=fun h=>by
   rw[List.getElem?_eq_getElem h] at hx;exact Option.some.inj hx
  simp[hlv,hgl4,hk4];refine Qe.det (ADet.up (Zt s hs.tok w.1 p)) ?_ (by simp[Qa.keys]) (by decide) rfl (fun v hv=>?_) (fun v hv=>by cases hv)
  ·simp
  cases hv;rcases htm:(QF w.1 s).1
  ·obtain⟨hno,htm2⟩:=Ug htm;have w1:=wr2 k;rw[htm2];simp[w1];exact hnext _ (k+1) ⟨by omega,fun j h2=>by
    by_cases e:j=k
    ·rw[e,<- hw];exact hno
    ·exact hnone j (by omega)⟩ (by omega) (Qb (by simp) (by simp[ne1]) (by simp[ne1]))
  ·obtain⟨hc,hb2,htm2⟩:=qp htm;have hsg:Yk (hd s.l)=some w.2:=by
    rw[hw];refine uB hk4 (fun j hj=>?_) (by rw[<- hw];exact hb2);have:=hnone j hj;rcases hx:(hd s.l).isB (Yd.getD j default).1 with _|_
    ·rfl
    ·exact absurd ⟨hc,hx⟩ this
   rw[if_pos hc,hsg] at h;have h:(match exM f 3 s.next with|none=>none|some (e,s)=>some (Ex.mk w.2 zero [] [e],s))=some (e,s'):=h;rcases h2:exM f 3 s.next with _|⟨e2,s2⟩
   ·rw[h2] at h;cases h
   rw[h2] at h;have hnq:=hs.next (QC hb2)
   have hcall2:=ADet.up (ex:=[5]) (ho s.next e2 s2 hnq h2 p);rw[htm2];simp;refine Zr 5 [16,17,18] [(p,qblk s.next)] [(p,qblk s2)] (Qh e2) rfl (by kernel_rfl) (by simp[Qa.keys]) (by simp[Qa.keys]) (by simp[Qa.keys]) ?_;have hname:∀ (K:Option V->Prop),K (some (V.str (bs w.2)))->K ([V.str (bs wNeg),V.str (bs wConj),V.str (bs wNot),V.str (bs wNorm)][k]?):=fun K hK=>by
    rw[hw] at hK;rcases nat4 hk4 with rfl|rfl|rfl|rfl<;>exact hK
   cases h;obtain⟨so,sn,sm,sp⟩:=e2;rcases nat4 hk4 with rfl|rfl|rfl|rfl
   all_goals
    subst hw;simp[ne1];refine DetS.of rfl rfl rfl rfl rfl hcall2 rfl (by simp) ?_;simp[ne1,ne2,AOut.val,ASt.putD,Qh];refine⟨?_,?_⟩
    ·intro t ht v hv id hid;simp at ht;rcases ht with rfl|rfl|rfl<;>simp at hv<;>subst hv<;>simp[Qq] at hid
    ·exact hrt _ (hR _ (.keep [] [(p,qblk s')] (by simp[Qf,Qj,ne2];rfl) (by simp) (by simp) (by simp[Qa.keys]) (by simp[Qa.keys]) (.refl _) ⟨by simp[Qh,Qm,zero,fz0];rfl,rfl⟩))
 ·have hk4:k=4:=by simp at hb;omega
  subst hk4;refine hex _ _ ?_;have hsn:s.code=0->Yk (hd s.l)=none:=fun hc=>zy fun j hj=>by
   have:=hnone j hj;rcases hx:(hd s.l).isB (Yd.getD j default).1 with _|_
   ·rfl
   ·exact absurd ⟨hc,hx⟩ this
  obtain⟨l,pos,code⟩:=s;obtain⟨t,r,rfl,ht,htk⟩:=TokL.cons hs.tok;have hnx:=ADet.up (ex:=[5]) (Zf ⟨t::r,pos,code⟩ hs.tok p);simp only[ht] at hnx;simp[qblk,Qg,ne1];by_cases hc:code=0
  ·have hcb:(code == 0)=true:=by simp[hc]
   rw[if_pos hc,hsn hc] at h;have h:(if t.kind=2 then some (Ex.mk [] t.num [] [],(⟨t::r,pos,code⟩:QS).next) else if t.isB [40]=true then (match exM f 0 (⟨t::r,pos,code⟩:QS).next with|none=>none|some (e,s)=>some (e,WC [41] s)) else some (Ex.mk wReg zero (WU ⟨t::r,pos,code⟩).1 [],(WU ⟨t::r,pos,code⟩).2))=some (e,s'):=by
    simp only[ht] at h;exact h
   simp[hcb];refine Qe.det hnx ?_ (by simp[Qa.keys]) (by decide) rfl (fun v hv=>?_) (fun v hv=>by cases hv)
   ·simp[qblk,Qg]
   cases hv;simp[Qg];rcases hk2:(t.kind == 2)
   ·have h2:¬ t.kind=2:=by simpa using hk2
    rw[if_neg h2] at h;simp;refine Qe.det (ADet.up (Zt ⟨t::r,pos,code⟩ hs.tok [40] p)) ?_ (by simp[Qa.keys]) (by decide) rfl (fun v hv=>?_) (fun v hv=>by cases hv)
    ·simp[qblk,Qg]
    cases hv;rcases hb:t.isB [40]
    ·rw[if_neg (by rw[hb];simp)] at h;have htm:QF [40] ⟨t::r,pos,code⟩=(false,⟨t::r,pos,code⟩):=by unfold QF;rw[if_neg (fun x=>by rw[ht,hb] at x;exact Bool.noConfusion x.2)]
     cases h;rw[htm];simp[ne1];refine Qe.det (ADet.up (jP ⟨t::r,pos,code⟩ hs p)) ?_ (by simp[Qa.keys]) (by decide) rfl (fun v hv=>?_) (fun v hv=>by cases hv)
     ·simp[qblk,Qg]
     cases hv;simp[ne1,ne2];refine hR _ (.keep [] [(p,qblk (WU ⟨t::r,pos,code⟩).2)] (by simp[Qf,Qj,ne2];rfl) (by simp) (by simp) (by simp[Qa.keys]) (by simp[Qa.keys]) (v':=Qh (.mk wReg zero (WU ⟨t::r,pos,code⟩).1 [])) ?_ ⟨rfl,rfl⟩);simp only[Qh,Qm,zero,fz0];exact .agg (.cons (.refl _) (.cons (.refl _) (.cons (.refl _) (.cons .snil .nil))))
    ·rw[if_pos (by rw[hb])] at h;have htm:QF [40] ⟨t::r,pos,code⟩=(true,(⟨t::r,pos,code⟩:QS).next):=by unfold QF;rw[if_pos ⟨hc,by rw[ht,hb]⟩]
     have hnq:QOk (⟨t::r,pos,code⟩:QS).next:=hs.next (by rw[ht];exact QC hb)
     rcases h2:exM f 0 (⟨t::r,pos,code⟩:QS).next with _|⟨e2,s2⟩
     ·rw[h2] at h;cases h
     rw[h2] at h;cases h;have hs2:=(VT f).1 _ _ _ _ hnq h2;rw[htm];simp[ne1];refine Qe.det (ADet.up (he _ e s2 hnq h2 p)) ?_ (by simp[Qa.keys]) (by decide) rfl (fun v hv=>?_) (fun v hv=>by cases hv)
     ·simp
     cases hv;obtain⟨so,sn,sm,sp⟩:=e;simp[Qh,ne1];have q1:¬ (L,1)=p:=fun e=>by rw[<- e] at hpL;exact Nat.lt_irrefl _ hpL
     have q2:¬ p=(L,1):=fun e=>q1 e.symm;refine Qe.det (ADet.up (VN s2 hs2 [41] p)) ?_ (by simp[Qa.keys]) (by decide) rfl (fun v hv=>?_) (fun v hv=>by cases hv)
     ·simp[q2]
     cases hv;simp[ne1,ne2,q1,q2];exact hR _ (.keep [] [(p,qblk (WC [41] s2))] (by simp[Qf,Qj,ne2];rfl) (by simp) (by simp) (by simp[Qa.keys]) (by simp[Qa.keys]) (.refl _) ⟨by simp[Qh],rfl⟩)
   ·have h2:t.kind=2:=by simpa using hk2
    rw[if_pos h2] at h;cases h;have hfm:Wi ⟨t::r,pos,code⟩=(t.num,(⟨t::r,pos,code⟩:QS).next):=by unfold Wi;simp only[ht];rw[if_pos h2,if_pos hc]
    have hfq:=wt ⟨t::r,pos,code⟩ hs p;rw[hfm] at hfq;simp;refine Qe.det (ADet.up hfq) ?_ (by simp[Qa.keys]) (by decide) rfl (fun v hv=>?_) (fun v hv=>by cases hv)
    ·simp[qblk,Qg]
    cases hv;simp[Qu,ne1,ne2];refine hR _ (.keep [] [(p,qblk (⟨t::r,pos,code⟩:QS).next)] (by simp[Qf,Qj,ne2];rfl) (by simp) (by simp) (by simp[Qa.keys]) (by simp[Qa.keys]) (v':=Qh (.mk [] t.num [] [])) ?_ ⟨rfl,rfl⟩);simp only[Qh,Qm];exact .agg (.cons (.refl _) (.cons (.refl _) (.cons (.refl _) (.cons .snil .nil))))
  ·have hcb:(code == 0)=false:=by simp[hc]
   rw[if_neg hc] at h;have htm:QF [40] ⟨t::r,pos,code⟩=(false,⟨t::r,pos,code⟩):=by unfold QF;rw[if_neg (fun x=>hc x.1)]
   cases h;simp[hcb];refine Qe.det (ADet.up (Zt ⟨t::r,pos,code⟩ hs.tok [40] p)) ?_ (by simp[Qa.keys]) (by decide) rfl (fun v hv=>?_) (fun v hv=>by cases hv)
   ·simp[qblk,Qg]
   cases hv;rw[htm];simp[ne1];refine Qe.det (ADet.up (jP ⟨t::r,pos,code⟩ hs p)) ?_ (by simp[Qa.keys]) (by decide) rfl (fun v hv=>?_) (fun v hv=>by cases hv)
   ·simp[qblk,Qg]
   cases hv;simp[ne1,ne2];refine hR _ (.keep [] [(p,qblk (WU ⟨t::r,pos,code⟩).2)] (by simp[Qf,Qj,ne2];rfl) (by simp) (by simp) (by simp[Qa.keys]) (by simp[Qa.keys]) (v':=Qh (.mk wReg zero (WU ⟨t::r,pos,code⟩).1 [])) ?_ ⟨rfl,rfl⟩);simp only[Qh,Qm,zero,fz0];exact .agg (.cons (.refl _) (.cons (.refl _) (.cons (.refl _) (.cons .snil .nil))))
theorem expr_allQ:∀ f,OneQ f/\ProdQ f/\SumQ f/\ExprQ f:=by
 intro f
 induction f using Nat.strongRecOn with
 | _ f ih=>
   cases f with
   | zero=>exact⟨fun s e s' _ h=>(by rw[exM] at h;cases h),fun s e s' _ h=>(by rw[exM] at h;cases h),fun s e s' _ h=>(by rw[exM] at h;cases h),fun s e s' _ h=>(by rw[exM] at h;cases h)⟩
   | succ f=>exact⟨one_q f (ih f (by omega)).1 (ih f (by omega)).2.2.2,prod_q f fun g hg=>(ih g (by omega)).1,sum_q f fun g hg=>(ih g (by omega)).2.1,expr_q f fun g hg=>(ih g (by omega)).2.2.1⟩
theorem Qaw {l:List Tok} {pos:Int} (hl:QL l):Wc (XK l) pos (some (firstM ⟨l,pos,0⟩)):=by
 unfold XK firstM;simp only[vb];by_cases hk:kindOf (hd l)=0
 ·simp only[hk,if_true,ne_eq,not_true_eq_false,false_and,if_false,VO];rcases hn:WI l with e|⟨n,l1⟩
  ·have hc:=VP hn;have hne:(⟨l,e.1,e.2⟩:QS).code≠0:=by show e.2≠0;omega
   have g0:Wh ((0:Nat):Int)=true:=rfl;simp only[YB hne,uR hne,if_pos g0];exact .inr ⟨by omega,_,l,hl.tok,rfl⟩
  ·have hl1:=hl.sub (Vl hl.tok hn) (YC hn);simp only[Yn];rcases hm:QZ [61] l1 with e|⟨u,l3⟩
   ·have hc:=Yo hm;have hne:(⟨l1,e.1,e.2⟩:QS).code≠0:=by show e.2≠0;omega
    have g0:Wh ((0:Nat):Int)=true:=rfl;simp only[uR hne,if_pos g0];exact .inr ⟨by omega,_,l1,hl1.tok,rfl⟩
   ·have hl3:=hl1.sub (Jp hl1.tok hm) (XX hm);simp only[vb];have hs:(if kindOf (hd l3)=0 then (⟨l3,pos,0⟩:QS) else ⟨l3.tail,pos,0⟩)=⟨if kindOf (hd l3)=0 then l3 else l3.tail,pos,0⟩:=by split<;>rfl
    have ht:TokL (if kindOf (hd l3)=0 then l3 else l3.tail):=by
     split
     ·exact hl3.tok
     ·rename_i h;exact hl3.tok.tail (Yq h)
    rw[hs];generalize (if kindOf (hd l3)=0 then l3 else l3.tail)=l4 at ht ⊢;rcases hg:Wh (kindOf (hd l3))
    ·rw[if_neg (by simp),if_neg (by simp)];exact .inr ⟨by simp[Jh],_,l4,ht,rfl⟩
    ·rw[if_pos rfl,if_pos rfl]<;>rfl
 ·simp only[if_neg hk];have ht:=hl.tok.tail (Yq hk);rcases hg:Wh (kindOf (hd l))
  ·rw[if_neg (by simp),if_neg (by simp)]<;>rfl
  ·rw[if_pos rfl,if_pos ⟨hk,rfl⟩];exact .inr ⟨by simp[Jh],_,l.tail,ht,rfl⟩
theorem uh {f k:Nat} {l:List Tok} {pos:Int} (hl:QL l):Wc (WK f k l) pos (Zb (f+4) k ⟨l,pos,0⟩):=by
 unfold WK Zb;by_cases hn:Qz k=true
 ·rw[if_pos hn,if_pos hn];simp only[VO];rcases hm:WI l with e|⟨n,l1⟩
  ·have hc:=VP hm;have hne:(⟨l,e.1,e.2⟩:QS).code≠0:=by show e.2≠0;omega
   simp only[Zv hne];rw[if_neg (fun x=>Bool.noConfusion x.2)];exact .inr ⟨by omega,_,l,hl.tok,rfl⟩
  ·have hl1:=hl.sub (Vl hl.tok hm) (YC hm);simp only[Zu];by_cases hc:Xt k=true/\(hd l1).isB [91]=true
   ·have hc':(Xt k&&(hd l1).isB [91])=true:=by simp[hc.1,hc.2]
    rw[if_pos hc,if_pos hc',if_pos hc.2];have hlt:=hl1.tail (QC hc.2);have h1:=wh (f:=f) (pos:=pos) hlt;rcases hr:Ww f l1.tail with er|⟨x,l2⟩
    ·rw[hr] at h1;rcases h1 with h1|⟨h1,a,l',ht,hm⟩
     ·exact .inl h1
     ·have hne:(⟨l',er.1,er.2⟩:QS).code≠0:=h1;refine .inr ⟨h1,(n,true,[a]),l',ht,?_⟩;rw[hm];simp only[YB hne]
    ·rw[hr] at h1;have h1:XJ (f+4) ⟨l1.tail,pos,0⟩=some (x,⟨l2,pos,0⟩):=h1;rw[h1];simp only[Yn];have hl2:=hlt.sub (Xp hlt.tok hr).1.1 (Vw hr);rcases hm2:QZ [93] l2 with e|⟨u,l3⟩
     ·have:=Yo hm2;exact .inr ⟨by omega,_,l2,hl2.tok,rfl⟩
     ·rfl
   ·have hc':¬ (Xt k&&(hd l1).isB [91])=true:=fun x=>hc (by simpa using x);rw[if_neg hc,if_neg hc']<;>rfl
 ·rw[if_neg hn,if_neg hn]<;>rfl
theorem zN {f:Nat} {l:List Tok} {pos:Int} (hl:QL l):Wc (Ut f l) pos (wc (f+4) ⟨l,pos,0⟩):=by
 rw[Zi];unfold wc;have h1:=Qaw (pos:=pos) hl;rcases hr:XK l with er|⟨⟨k,reg⟩,l1⟩
 ·rw[hr] at h1;rcases h1 with h1|⟨h1,⟨k,reg⟩,l',ht,hm⟩
  ·exact .inl h1
  ·have hne:(⟨l',er.1,er.2⟩:QS).code≠0:=h1;have hm:firstM ⟨l,pos,0⟩=((k,reg),⟨l',er.1,er.2⟩):=Option.some.inj hm;obtain⟨⟨name,ix,xs⟩,h2⟩:=Qoq (f:=f) (k:=k) hne;obtain⟨ys,h3⟩:=ZK (f:=f) hne (QR k) (Qz k);rw[hm];simp only[h2,h3];exact .inr ⟨h1,_,l',ht,rfl⟩
 ·rw[hr] at h1;have h1:firstM ⟨l,pos,0⟩=((k,reg),⟨l1,pos,0⟩):=Option.some.inj h1;have hl1:=hl.sub (ZR hl.tok hr).1 (vj hr);rw[h1];simp only;have h2:=uh (f:=f) (k:=k) (pos:=pos) hl1;rcases hr2:WK f k l1 with er|⟨⟨name,ix,xs⟩,l2⟩
  ·rw[hr2] at h2;rcases h2 with h2|⟨h2,⟨name,ix,xs⟩,l',ht,hm⟩
   ·exact .inl h2
   ·have hne:(⟨l',er.1,er.2⟩:QS).code≠0:=h2;obtain⟨ys,h3⟩:=ZK (f:=f) hne (QR k) (Qz k);rw[hm];simp only[h3];exact .inr ⟨h2,_,l',ht,rfl⟩
  ·rw[hr2] at h2;have h2:Zb (f+4) k ⟨l1,pos,0⟩=some ((name,ix,xs),⟨l2,pos,0⟩):=h2;have hl2:=hl1.sub (Za hl1.tok hr2).1 (zA hr2);rw[h2];simp only;have h3:=qn (f:=f) (QR k) (Qz k) l2 pos hl2;rcases hr3:wholes f (Qz k) (QR k) l2 with er|⟨ys,l3⟩
   ·rw[hr3] at h3;rcases h3 with h3|⟨h3,ys,l',ht,hm⟩
    ·exact .inl h3
    ·rw[hm];exact .inr ⟨h3,_,l',ht,rfl⟩
   ·rw[hr3] at h3;have h3:Xk (f+4) (Qz k) (QR k) ⟨l2,pos,0⟩=some (ys,⟨l3,pos,0⟩):=h3;rw[h3]<;>rfl
theorem ze:∀ f,(∀ d l pos,d<=12->QL l->Wc (QT f d l) pos (Xn (f+4) (d+1) ⟨l,pos,0⟩))/\(∀ d l pos,d<=12->QL l->Wc (Xw f d l) pos (Ja (f+4) d ⟨l,pos,0⟩))/\(∀ d l pos,d<=12->QL l->Wc (Xl f d l) pos (Vh (f+4) d ⟨l,pos,0⟩))
 | 0=>⟨fun d l pos _ _=>by rw[QT];exact .inl rfl,fun d l pos _ _=>by rw[Xw];exact .inl rfl,fun d l pos _ _=>by rw[Xl];exact .inl rfl⟩
 | f+1=>by
   obtain⟨ihb,ihr,ihs⟩:=ze f;have e5:f+1+4=(f+4)+1:=by omega
   refine⟨fun d l pos hd hl=>?_,fun d l pos hd hl=>?_,fun d l pos hd hl=>?_⟩
   ·rw[QT,e5,Xn];simp only[Yn];rcases hm:QZ [123] l with e|⟨u,l1⟩
    ·have hc:=Yo hm;have hne:(⟨l,e.1,e.2⟩:QS).code≠0:=by show e.2≠0;omega
     simp only[Vc hne,ite_self];rw[UN (f:=f+3) hne];exact .inr ⟨by omega,_,l,hl.tok,rfl⟩
    ·have hl1:=hl.sub (Jp hl.tok hm) (XX hm);simp only;by_cases h12:d=12
     ·have h13:12<d+1:=by omega
      rw[if_pos h12,if_pos h13];have hw:(⟨l1,pos,0⟩:QS).wrong (Sp.hd l).place 10=⟨l1,(Sp.hd l).place,10⟩:=rfl;rw[hw];have hne:(⟨l1,(Sp.hd l).place,10⟩:QS).code≠0:=by show (10:Int)≠0;decide
      rw[UN (f:=f+3) hne];exact .inr ⟨by simp[qa],_,l1,hl1.tok,rfl⟩
     ·have h13:¬ 12<d+1:=by omega
      rw[if_neg h12,if_neg h13];exact ihr (d+1) l1 pos (by omega) hl1
   ·rw[Xw,e5,Ja,if_pos rfl];show Wc (if (Sp.hd l).isB [125]=true then _ else _) pos (if (Sp.hd l).isB [125]=true then _ else _);by_cases hb:(Sp.hd l).isB [125]=true
    ·rw[if_pos hb,if_pos hb]<;>rfl
    ·rw[if_neg hb,if_neg hb];have h1:=ihs d l pos hd hl;rcases hr:Xl f d l with er|⟨x,l1⟩
     ·rw[hr] at h1;rcases h1 with h1|⟨h1,a,l',ht,hm⟩
      ·exact .inl h1
      ·have hne:(⟨l',er.1,er.2⟩:QS).code≠0:=h1;rw[hm];simp only;rw[UN (f:=f+3) hne];exact .inr ⟨h1,_,l',ht,rfl⟩
     ·rw[hr] at h1;have h1:Vh (f+4) d ⟨l,pos,0⟩=some (x,⟨l1,pos,0⟩):=h1;have hl1:=hl.sub ((Yc f).2.2 _ _ _ _ hl.tok hr).1 ((yD f).2.2 _ _ _ _ hr);rw[h1];simp only;have h2:=ihr d l1 pos hd hl1;rcases hr2:Xw f d l1 with er|⟨xs,l2⟩
      ·rw[hr2] at h2;rcases h2 with h2|⟨h2,a,l',ht,hm⟩
       ·exact .inl h2
       ·rw[hm];exact .inr ⟨h2,_,l',ht,rfl⟩
      ·rw[hr2] at h2;have h2:Ja (f+4) d ⟨l1,pos,0⟩=some (xs,⟨l2,pos,0⟩):=h2;rw[h2]<;>rfl
   ·rw[Xl,e5,Vh];have h1:=zN (f:=f) (pos:=pos) hl;rcases hr:Ut f l with er|⟨⟨k,reg,name,ix,xs⟩,l1⟩
    ·rw[hr] at h1;rcases h1 with h1|⟨h1,⟨k,reg,name,ix,xs⟩,l',ht,hm⟩
     ·exact .inl h1
     ·have hne:(⟨l',er.1,er.2⟩:QS).code≠0:=h1;rw[hm];simp only[YB hne];by_cases hk:k<15
      ·rw[if_pos hk];exact .inr ⟨h1,_,l',ht,rfl⟩
      ·rw[if_neg hk,vF (f:=f+2) hne];simp only[Zv hne];rw[if_neg (fun x=>Bool.noConfusion x.2)];exact .inr ⟨h1,_,l',ht,rfl⟩
    ·rw[hr] at h1;have h1:wc (f+4) ⟨l,pos,0⟩=some ((k,reg,name,ix,xs),⟨l1,pos,0⟩):=h1;have hl1:=hl.sub (ZC hl.tok hr).1 (uW hr);rw[h1];simp only;by_cases hk:k<15
     ·rw[if_pos hk,if_pos hk];simp only[Yn];rcases hm:QZ [59] l1 with e|⟨u,l2⟩
      ·have hc:=Yo hm;exact .inr ⟨by omega,_,l1,hl1.tok,rfl⟩
      ·rfl
     ·rw[if_neg hk,if_neg hk];have h2:=ihb d l1 pos hd hl1;rcases hr2:QT f d l1 with er|⟨body,l2⟩
      ·rw[hr2] at h2;rcases h2 with h2|⟨h2,a,l',ht,hm⟩
       ·exact .inl h2
       ·have hne:(⟨l',er.1,er.2⟩:QS).code≠0:=h2;rw[hm];simp only[Zv hne];rw[if_neg (fun x=>Bool.noConfusion x.2)];exact .inr ⟨h2,_,l',ht,rfl⟩
      ·rw[hr2] at h2;have h2:Xn (f+4) (d+1) ⟨l1,pos,0⟩=some (body,⟨l2,pos,0⟩):=h2;have hl2:=hl1.sub ((Yc f).1 _ _ _ _ hl1.tok hr2).1 ((yD f).1 _ _ _ _ hr2);rw[h2];simp only[Zu];by_cases he:k=15/\(Sp.hd l2).isB YW=true
       ·rw[if_pos he,if_pos he,if_pos he.2];have hlt:=hl2.tail (QC he.2);have h3:=ihb d l2.tail pos hd hlt;rcases hr3:QT f d l2.tail with er|⟨els,l3⟩
        ·rw[hr3] at h3;rcases h3 with h3|⟨h3,a,l',ht,hm⟩
         ·exact .inl h3
         ·rw[hm];exact .inr ⟨h3,_,l',ht,rfl⟩
        ·rw[hr3] at h3;have h3:Xn (f+4) (d+1) ⟨l2.tail,pos,0⟩=some (els,⟨l3,pos,0⟩):=h3;rw[h3]<;>rfl
       ·rw[if_neg he,if_neg he];by_cases hb:(Sp.hd l2).isB YW=true
        ·have:¬ k=15:=fun x=>he ⟨x,hb⟩;rfl
        ·rfl
end Go.Awp.R1
