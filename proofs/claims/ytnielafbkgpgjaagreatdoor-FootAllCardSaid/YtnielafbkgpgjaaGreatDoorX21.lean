/- The program's own parser: a declaration's number. -/
import Derived.Test.YtnielafbkgpgjaaGreatDoorX20
set_option linter.all false
set_option maxRecDepth 100000
set_option maxHeartbeats 8000000
namespace Go.Awp.R1
open Go Go.Awp Go.Proofs Go.Awp.Sp
def qS (z:Cx):Prop:=z.re.natAbs<=1048576/\z.im.natAbs<=1048576/\(z.re=0∨z.im=0)
def NumL (l:List Tok):Prop:=∀ t∈l,qS t.num
def second (c:Cx) (l:List Tok):PR Cx:=
 if c.im≠0 then .ok (c,l) else
 if (hd l).isB [45]=false/\(hd l).isB [43]=false then .ok (c,l) else
 if (hd l.tail).kind≠2∨(hd l.tail).num.im=0 then .error ((hd l.tail).place,WE) else
 .ok (⟨c.re,if (hd l).isB [45] then 0 - (hd l.tail).num.im else (hd l.tail).num.im⟩,l.tail.tail)
theorem JG (l:List Tok):Wn l =
 (let l1:=if (hd l).isB [45] then l.tail else l
  if (hd l1).kind≠2 then .error ((hd l1).place,WE) else
  second (if (hd l).isB [45] then ⟨0 - (hd l1).num.re,0 - (hd l1).num.im⟩ else (hd l1).num) l1.tail):=by
 unfold Wn second;rfl
structure XN where
 i:Nat
 c:Cx
 l:List Tok
structure JN (R:PR Cx) (l0:List Tok) (x:XN):Prop where
 tok:TokL x.l
 num:NumL x.l
 small:x.c.re.natAbs<=1048576/\x.c.im.natAbs<=1048576
 at0:(x.i=0/\x.c=⟨0,0⟩/\x.l=l0)∨(x.i=1/\x.c.im=0/\R=second x.c x.l)∨(x.i=2/\R = .ok (x.c,x.l))
theorem QD {n:Int} (h:n.natAbs<=1048576):QV n:=by unfold QV;omega
theorem NumL.tail {l:List Tok} (h:NumL l):NumL l.tail:=fun t ht=>h t (List.mem_of_mem_tail ht)
theorem jL (l:List Tok) (hl:TokL l) (hn:NumL l):APar 90 [] l Qu (Wn l):=by
 intro p deep;refine ent Tryz.func90 fun L K hL hR hN hP=>?_;have hpL:p.1<L:=hL p (by simp[Qa.keys]);have hz0:fz 0=0:=WZ;have f0:QV 0:=by unfold QV;simp
 have fne:∀ n:Int,n.natAbs<=1048576->(FloatKind.f64.format.order (fz n) 0 != some Ordering.eq)=decide (n≠0):=fun n h=>by
  have:=QBq (QD h) f0
  rwa [hz0] at this
 have feq:∀ n:Int,n.natAbs<=1048576->(FloatKind.f64.format.order (fz n) 0 == some Ordering.eq)=decide (n=0):=fun n h=>by
  have:=uX (QD h) f0
  rwa [hz0] at this
 have fa0:∀ n:Int,n.natAbs<=1048576->floatBits .add .f64 (fz n) 0=some (fz n):=fun n h=>by
  have:=vh (QD h) f0;rw[hz0] at this;simpa using this
 have fa1:∀ n:Int,n.natAbs<=1048576->floatBits .add .f64 0 (fz n)=some (fz n):=fun n h=>by
  have:=vh f0 (QD h);rw[hz0] at this;simpa using this
 have fs1:∀ n:Int,n.natAbs<=1048576->floatBits .sub .f64 0 (fz n)=some (fz (0 - n)):=fun n h=>by
  have:=yY f0 (QD h);rw[hz0] at this;exact this
 simp;refine QB (α:=XN) (JN (Wn l) l) (fun x=>[(0,.ptr p 0),(3,Qu x.c),(8,.slice [.str (bs [45]),.str (bs [43])]),(9,.int .i64 2),(10,.int .i64 x.i)]) (fun x=>[(p,pblk x.l deep)]) (fun x=>3 - x.i) ⟨0,⟨0,0⟩,l⟩ ⟨hl,hn,⟨by simp,by simp⟩,.inl ⟨rfl,rfl,rfl⟩⟩ (Qb (by simp[Qu,hz0];exact⟨rfl,rfl⟩) (by simp) (by simp)) ?_;rintro⟨i,c,lx⟩ L1 K1 ⟨htok,hnum,hsm,hat⟩ hL1 - hnext hex hrt - hpn;simp only at htok hnum hsm hat;have hLL:L<L1:=hL1;have m1:¬ (L1,0)=p:=fun e=>by rw[<- e] at hpL;simp at hpL;omega
 have m2:¬ p=(L1,0):=fun e=>m1 e.symm;rcases hat with⟨rfl,rfl,rfl⟩|⟨rfl,him,hR1⟩|⟨rfl,hR2⟩
 ·simp;refine Qe.det (Ub lx htok [45] p deep) ?_ (by simp[Qa.keys]) (by decide) rfl (fun v hv=>?_) (fun v hv=>by simp[outP] at hv)
  ·simp
  cases hv;have hRe:=JG lx;rcases hm:(hd lx).isB [45]
  ·rw[hm] at hRe;obtain⟨t,r,rfl,ht,htk⟩:=htok.cons;have hnt:=hnum t List.mem_cons_self;simp[stP,pblk,Qg];rcases k2:(t.kind != 2)
   ·have hk2:t.kind=2:=by simpa using k2
    have htokr:TokL r:=htok.tail (by rw[ht,hk2];decide);have hnumr:NumL r:=hnum.tail;have htake:(r.map Qg).take r.length=r.map Qg:=List.take_of_length_le (by simp);have hRf:Wn (t::r)=second t.num r:=by rw[hRe];simp[ht,hk2]
    have g1:=fa1 _ hnt.1;have g2:=fa1 _ hnt.2.1;have g3:=fne _ hnt.2.1;have g5:cSumBits .add .f64 0 0 (fz t.num.re) (fz t.num.im)=some (fz (t.num:Cx).re,fz (t.num:Cx).im):=by
     unfold cSumBits;rw[g1,g2];rfl
    try simp only at g5
    simp[Qg,Qu,hz0,g5,htake,m1,g3];refine Qv.mk (fun hb=>?_) fun hb=>?_
    ·have him:t.num.im≠0:=by simpa using hb
     have hend:Wn (t::r) = .ok (t.num,r):=by rw[hRf];unfold second;rw[if_pos (by simpa using him)]
     rw[hend] at hR;have a1:=fa0 (t.num:Cx).re (by have:=hnt.1;simp;try omega);have a2:=fa0 (t.num:Cx).im (by have:=hnt.2.1;simp;try omega)
     try simp only[Int.zero_sub] at a1 a2
     refine hex _ _ ?_;simp[a1,a2];exact hR _ (.keep [] [(p,pblk r deep)] rfl (by simp[pblk]) (by simp) (by simp[Qa.keys]) (by simp[Qa.keys]) (.refl _) ⟨by simp[outP,Qu],rfl⟩)
    ·have him:t.num.im=0:=by simpa using hb
     simp;exact hnext _ ⟨1,t.num,r⟩ ⟨htokr,hnumr,⟨by have:=hnt.1;simp;try omega,by simp[him]⟩,.inr (.inl ⟨rfl,by simp[him],hRf⟩)⟩ (by simp) (Qb (by simp[Qu]) (by simp[pblk]) (by simp[m1]))
   ·have hk2:t.kind≠2:=by simpa using k2
    have hRf:Wn (t::r) = .error (t.place,WE):=by rw[hRe];simp[ht,hk2]
    rw[hRf] at hP;simp;refine Qe.det (YP (t::r) htok 1 p deep) ?_ (by simp[Qa.keys]) (by decide) rfl (fun v hv=>by simp[outP] at hv) (fun v hv=>?_)
    ·simp[pblk,Qg]
    cases hv;refine hpn _ _ ?_;exact hP _ _ _ [] [] (by simp) (by simp) (by simp[Qa.keys]) (by simp[Qa.keys]) (.refl _) ⟨by rw[ht];rfl,rfl⟩
  ·rw[hm] at hRe;have htok2:=htok.tail (QC hm);have hnum2:=hnum.tail;generalize lx.tail=lx2 at htok2 hnum2 hRe ⊢;obtain⟨t,r,rfl,ht,htk⟩:=htok2.cons;have hnt:=hnum2 t List.mem_cons_self;simp[stP,pblk,Qg];rcases k2:(t.kind != 2)
   ·have hk2:t.kind=2:=by simpa using k2
    have htokr:TokL r:=htok2.tail (by rw[ht,hk2];decide);have hnumr:NumL r:=hnum2.tail;have htake:(r.map Qg).take r.length=r.map Qg:=List.take_of_length_le (by simp);have hRf:Wn lx=second ⟨0 - t.num.re,0 - t.num.im⟩ r:=by rw[hRe];simp[ht,hk2]
    have g1:=fs1 _ hnt.1;have g2:=fs1 _ hnt.2.1;have g3:=fne _ hnt.2.1;have g5:cSumBits .sub .f64 0 0 (fz t.num.re) (fz t.num.im)=some (fz (⟨0 - t.num.re,0 - t.num.im⟩:Cx).re,fz (⟨0 - t.num.re,0 - t.num.im⟩:Cx).im):=by
     unfold cSumBits;rw[g1,g2];rfl
    try simp only at g5
    simp[Qg,Qu,hz0,g5,htake,m1,g3];refine Qv.mk (fun hb=>?_) fun hb=>?_
    ·have him:t.num.im≠0:=by simpa using hb
     have hend:Wn lx = .ok (⟨0 - t.num.re,0 - t.num.im⟩,r):=by rw[hRf];unfold second;rw[if_pos (by simpa using him)]
     rw[hend] at hR;have a1:=fa0 (⟨0 - t.num.re,0 - t.num.im⟩:Cx).re (by have:=hnt.1;simp;try omega);have a2:=fa0 (⟨0 - t.num.re,0 - t.num.im⟩:Cx).im (by have:=hnt.2.1;simp;try omega)
     try simp only[Int.zero_sub] at a1 a2
     refine hex _ _ ?_;simp[a1,a2];exact hR _ (.keep [] [(p,pblk r deep)] rfl (by simp[pblk]) (by simp) (by simp[Qa.keys]) (by simp[Qa.keys]) (.refl _) ⟨by simp[outP,Qu],rfl⟩)
    ·have him:t.num.im=0:=by simpa using hb
     simp;exact hnext _ ⟨1,⟨0 - t.num.re,0 - t.num.im⟩,r⟩ ⟨htokr,hnumr,⟨by have:=hnt.1;simp;try omega,by simp[him]⟩,.inr (.inl ⟨rfl,by simp[him],hRf⟩)⟩ (by simp) (Qb (by simp[Qu]) (by simp[pblk]) (by simp[m1]))
   ·have hk2:t.kind≠2:=by simpa using k2
    have hRf:Wn lx = .error (t.place,WE):=by rw[hRe];simp[ht,hk2]
    rw[hRf] at hP;simp;refine Qe.det (YP (t::r) htok2 1 p deep) ?_ (by simp[Qa.keys]) (by decide) rfl (fun v hv=>by simp[outP] at hv) (fun v hv=>?_)
    ·simp[pblk,Qg]
    cases hv;refine hpn _ _ ?_;exact hP _ _ _ [] [] (by simp) (by simp) (by simp[Qa.keys]) (by simp[Qa.keys]) (.refl _) ⟨by rw[ht];rfl,rfl⟩
 ·simp;refine Qe.det (Ub lx htok [45] p deep) ?_ (by simp[Qa.keys]) (by decide) rfl (fun v hv=>?_) (fun v hv=>by simp[outP] at hv)
  ·simp
  cases hv;rcases hm:(hd lx).isB [45]
  ·simp[stP];refine Qe.det (Ub lx htok [43] p deep) ?_ (by simp[Qa.keys]) (by decide) rfl (fun v hv=>?_) (fun v hv=>by simp[outP] at hv)
   ·simp
   cases hv;rcases hp:(hd lx).isB [43]
   ·have hend:Wn l = .ok (c,lx):=by rw[hR1];unfold second;rw[if_neg (by simp[him]),if_pos ⟨hm,hp⟩]
    rw[hend] at hR;simp[stP];exact hrt _ (hR _ (.keep [] [(p,pblk lx deep)] rfl (by simp) (by simp) (by simp[Qa.keys]) (by simp[Qa.keys]) (.refl _) ⟨rfl,rfl⟩))
   ·have htok2:=htok.tail (QC hp);have hnum2:=hnum.tail;have hRe:Wn l=if (hd lx.tail).kind≠2∨(hd lx.tail).num.im=0 then .error ((hd lx.tail).place,WE) else .ok (⟨c.re,(hd lx.tail).num.im⟩,lx.tail.tail):=by
     rw[hR1];unfold second;rw[if_neg (by simp[him]),if_neg (by simp[hp]),hm];rfl
    generalize lx.tail=lx2 at htok2 hnum2 hRe ⊢;obtain⟨t,r,rfl,ht,htk⟩:=htok2.cons;have hnt:=hnum2 t List.mem_cons_self;have fail:(t.kind≠2∨t.num.im=0)->∀ s',K1 (.panic (Zo ((hd (t::r)).place,1))) s':=fun h s'=>by
     have hRf:Wn l = .error ((hd (t::r)).place,1):=by rw[hRe,if_pos (by rw[ht];exact h)];rfl
     rw[hRf] at hP;exact hpn _ _ (hP _ _ _ [] [] (by simp) (by simp) (by simp[Qa.keys]) (by simp[Qa.keys]) (.refl _) ⟨rfl,rfl⟩)
    simp[stP,pblk,Qg];rcases k2:(t.kind != 2)
    ·have hk2:t.kind=2:=by simpa using k2
     have htokr:TokL r:=htok2.tail (by rw[ht,hk2];decide);have hnumr:NumL r:=hnum2.tail;have htake:(r.map Qg).take r.length=r.map Qg:=List.take_of_length_le (by simp);have g4:=feq _ hnt.2.1;simp[g4];by_cases him0:t.num.im=0
     ·simp[him0];refine Qe.det (YP (t::r) htok2 1 p deep) ?_ (by simp[Qa.keys]) (by decide) rfl (fun v hv=>by simp[outP] at hv) (fun v hv=>?_)
      ·simp[pblk,Qg,him0]
      cases hv;exact fail (.inr him0) _
     ·have hre0:t.num.re=0:=hnt.2.2.resolve_right him0;have hRf:Wn l = .ok (⟨c.re,t.num.im⟩,r):=by rw[hRe,if_neg (by rw[ht];simp[hk2,him0]),ht];rfl
      rw[hRf] at hR;have g1:floatBits .add .f64 (fz c.re) (fz t.num.re)=some (fz c.re):=by
       have:=vh (QD hsm.1) (QD hnt.1);rw[this,hre0];simp
      have g2:floatBits .add .f64 (fz c.im) (fz t.num.im)=some (fz (t.num.im)):=by
       have:=vh (QD hsm.2) (QD hnt.2.1);rw[this,him];simp
      have g3:=fne _ hnt.2.1;have g5:cSumBits .add .f64 (fz c.re) (fz c.im) (fz t.num.re) (fz t.num.im)=some (fz c.re,fz (t.num.im)):=by
       unfold cSumBits;rw[g1,g2];rfl
      have a1:=fa0 c.re hsm.1;have a2:=fa0 (t.num.im) (by have:=hnt.2.1;try omega)
      try simp only[Int.zero_sub] at a1 a2
      simp[him0,Qg,Qu,g5,htake,m1,g3];refine hex _ _ ?_;simp[a1,a2];exact hR _ (.keep [] [(p,pblk r deep)] rfl (by simp[pblk]) (by simp) (by simp[Qa.keys]) (by simp[Qa.keys]) (.refl _) ⟨by simp[outP,Qu],rfl⟩)
    ·have hk2:t.kind≠2:=by simpa using k2
     simp;refine Qe.det (YP (t::r) htok2 1 p deep) ?_ (by simp[Qa.keys]) (by decide) rfl (fun v hv=>by simp[outP] at hv) (fun v hv=>?_)
     ·simp[pblk,Qg]
     cases hv;exact fail (.inl hk2) _
  ·have htok2:=htok.tail (QC hm);have hnum2:=hnum.tail;have hRe:Wn l=if (hd lx.tail).kind≠2∨(hd lx.tail).num.im=0 then .error ((hd lx.tail).place,WE) else .ok (⟨c.re,0 - (hd lx.tail).num.im⟩,lx.tail.tail):=by
    rw[hR1];unfold second;rw[if_neg (by simp[him]),if_neg (by simp[hm]),hm];rfl
   generalize lx.tail=lx2 at htok2 hnum2 hRe ⊢;obtain⟨t,r,rfl,ht,htk⟩:=htok2.cons;have hnt:=hnum2 t List.mem_cons_self;have fail:(t.kind≠2∨t.num.im=0)->∀ s',K1 (.panic (Zo ((hd (t::r)).place,1))) s':=fun h s'=>by
    have hRf:Wn l = .error ((hd (t::r)).place,1):=by rw[hRe,if_pos (by rw[ht];exact h)];rfl
    rw[hRf] at hP;exact hpn _ _ (hP _ _ _ [] [] (by simp) (by simp) (by simp[Qa.keys]) (by simp[Qa.keys]) (.refl _) ⟨rfl,rfl⟩)
   simp[stP,pblk,Qg];rcases k2:(t.kind != 2)
   ·have hk2:t.kind=2:=by simpa using k2
    have htokr:TokL r:=htok2.tail (by rw[ht,hk2];decide);have hnumr:NumL r:=hnum2.tail;have htake:(r.map Qg).take r.length=r.map Qg:=List.take_of_length_le (by simp);have g4:=feq _ hnt.2.1;simp[g4];by_cases him0:t.num.im=0
    ·simp[him0];refine Qe.det (YP (t::r) htok2 1 p deep) ?_ (by simp[Qa.keys]) (by decide) rfl (fun v hv=>by simp[outP] at hv) (fun v hv=>?_)
     ·simp[pblk,Qg,him0]
     cases hv;exact fail (.inr him0) _
    ·have hre0:t.num.re=0:=hnt.2.2.resolve_right him0;have hRf:Wn l = .ok (⟨c.re,0 - t.num.im⟩,r):=by rw[hRe,if_neg (by rw[ht];simp[hk2,him0]),ht];rfl
     rw[hRf] at hR;have g1:floatBits .sub .f64 (fz c.re) (fz t.num.re)=some (fz c.re):=by
      have:=yY (QD hsm.1) (QD hnt.1);rw[this,hre0];simp
     have g2:floatBits .sub .f64 (fz c.im) (fz t.num.im)=some (fz (0 - t.num.im)):=by
      have:=yY (QD hsm.2) (QD hnt.2.1);rw[this,him]
     have g3:=fne _ hnt.2.1;have g5:cSumBits .sub .f64 (fz c.re) (fz c.im) (fz t.num.re) (fz t.num.im)=some (fz c.re,fz (0 - t.num.im)):=by
      unfold cSumBits;rw[g1,g2];rfl
     have a1:=fa0 c.re hsm.1;have a2:=fa0 (0 - t.num.im) (by have:=hnt.2.1;try omega)
     try simp only[Int.zero_sub] at a1 a2
     simp[him0,Qg,Qu,g5,htake,m1,g3];refine hex _ _ ?_;simp[a1,a2];exact hR _ (.keep [] [(p,pblk r deep)] rfl (by simp[pblk]) (by simp) (by simp[Qa.keys]) (by simp[Qa.keys]) (.refl _) ⟨by simp[outP,Qu],rfl⟩)
   ·have hk2:t.kind≠2:=by simpa using k2
    simp;refine Qe.det (YP (t::r) htok2 1 p deep) ?_ (by simp[Qa.keys]) (by decide) rfl (fun v hv=>by simp[outP] at hv) (fun v hv=>?_)
    ·simp[pblk,Qg]
    cases hv;exact fail (.inl hk2) _
 ·rw[hR2] at hR;have a1:=fa0 _ hsm.1;have a2:=fa0 _ hsm.2;simp;refine hex _ _ ?_;simp[Qu,a1,a2];exact hR _ (.keep [] [(p,pblk lx deep)] rfl (by simp) (by simp) (by simp[Qa.keys]) (by simp[Qa.keys]) (.refl _) ⟨rfl,rfl⟩)
structure QS where
 l:List Tok
 pos:Int
 code:Int
def QS.wrong (s:QS) (pos e:Int):QS:=if s.code=0 then ⟨s.l,pos,e⟩ else s
def QS.next (s:QS):QS:=⟨s.l.tail,s.pos,s.code⟩
def QF (w:Bs) (s:QS):Bool × QS:=if s.code=0/\(hd s.l).isB w=true then (true,s.next) else (false,s)
def WC (w:Bs) (s:QS):QS:=if (QF w s).1=true then (QF w s).2 else (QF w s).2.wrong (hd (QF w s).2.l).place 1
def WU (s:QS):Bs × QS:=
 if (hd s.l).kind=1/\Wl (hd s.l).text=false then (if s.code=0 then ((hd s.l).text,s.next) else ([],s)) else ([],s.wrong (hd s.l).place 1)
def Wi (s:QS):Cx × QS:=
 if (hd s.l).kind=2 then (if s.code=0 then ((hd s.l).num,s.next) else (zero,s)) else (zero,s.wrong (hd s.l).place 1)
mutual
def exM:Nat->Nat->QS->Option (Ex × QS)
 | 0,_,_=>none
 | f+1,k,s=>
   if k<3 then
    match exM f (k+1) s with
    | none=>none
    | some (e,s)=>chM f k e s
   else if s.code=0 then
    match Yk (hd s.l) with
    | some op=>match exM f 3 s.next with
      | none=>none
      | some (e,s)=>some (.mk op zero [] [e],s)
    | none=>
      if (hd s.l).kind=2 then some (.mk [] (hd s.l).num [] [],s.next)
      else if (hd s.l).isB [40]=true then match exM f 0 s.next with
       | none=>none
       | some (e,s)=>some (e,WC [41] s)
      else some (.mk wReg zero (WU s).1 [],(WU s).2)
   else some (.mk wReg zero (WU s).1 [],(WU s).2)
def chM:Nat->Nat->Ex->QS->Option (Ex × QS)
 | 0,_,_,_=>none
 | f+1,k,e,s=>
   if k=0 then
    if s.code=0 then match Zp (hd s.l) (QE 0) with
     | none=>some (e,s)
     | some op=>match exM f 1 s.next with
       | none=>none
       | some (e2,s)=>some (.mk op zero [] [e,e2],s)
    else some (e,s)
   else if s.code=0/\(hd s.l).kind=3/\(QE k).contains (hd s.l).text=true then
    match exM f (k+1) s.next with
    | none=>none
    | some (e2,s2)=>chM f k (.mk (hd s.l).text zero [] [e,e2]) s2
   else some (e,s)
end
def XJ (f:Nat) (s:QS):Option (Ex × QS):=
 match exM f 0 s with
 | none=>none
 | some (e,s1)=>some (e,if s1.code=0/\12<WA e then s1.wrong (hd s.l).place 10 else s1)
def Xe (s:QS):Nat × QS:=if s.code=0/\kindOf (hd s.l)≠0 then (kindOf (hd s.l),s.next) else (0,s)
def Xk (f:Nat) (comma:Bool):Nat->QS->Option (List Ex × QS)
 | 0,s=>some ([],s)
 | n+1,s=>
   match XJ f (if comma then WC [44] s else s) with
   | none=>none
   | some (x,s)=>match Xk f true n s with
     | none=>none
     | some (xs,s)=>some (x::xs,s)
def firstM (s:QS):(Nat × Bs) × QS:=
 let k:=(Xe s).1
 let s1:=(Xe s).2
 let s2:=if k≠0/\Wh k=true then s1.wrong (hd s1.l).place 9 else s1
 if k=0 then
  let r:=WU s2
  let s3:=WC [61] r.2
  let k2:=(Xe s3).1
  let s4:=(Xe s3).2
  ((k2,r.1),if Wh k2=true then s4 else s4.wrong (hd s4.l).place 9)
 else ((k,[]),s2)
def Zb (f:Nat) (k:Nat) (s:QS):Option ((Bs × Bool × List Ex) × QS):=
 if Qz k=true then
  let r:=WU s
  if Xt k=true/\(QF [91] r.2).1=true then
   match XJ f (QF [91] r.2).2 with
   | none=>none
   | some (x,s)=>some ((r.1,true,[x]),WC [93] s)
  else some ((r.1,false,[]),r.2)
 else some (([],false,[]),s)
def wc (f:Nat) (s:QS):Option ((Int × Bs × Bs × Bool × List Ex) × QS):=
 match firstM s with
 | ((k,reg),s)=>match Zb f k s with
   | none=>none
   | some ((name,ix,xs),s)=>match Xk f (Qz k) (QR k) s with
     | none=>none
     | some (ys,s)=>some (((k:Int),reg,name,ix,xs++ys),s)
mutual
def Xn:Nat->Nat->QS->Option (List St × QS)
 | 0,_,_=>none
 | f+1,deep,s=>
   let s1:=WC [123] s
   Ja f deep (if 12<deep then s1.wrong (hd s.l).place 10 else s1)
def Ja:Nat->Nat->QS->Option (List St × QS)
 | 0,_,_=>none
 | f+1,deep,s=>
   if s.code=0 then
    if (hd s.l).isB [125]=true then some ([],s.next) else
    match Vh f deep s with
    | none=>none
    | some (x,s)=>match Ja f deep s with
      | none=>none
      | some (xs,s)=>some (x::xs,s)
   else some ([],s)
def Vh:Nat->Nat->QS->Option (St × QS)
 | 0,_,_=>none
 | f+1,deep,s=>
   match wc f s with
   | none=>none
   | some ((k,reg,name,ix,xs),s1)=>
     if k<15 then some (.mk k reg name ix xs [] [] (hd s.l).place,WC [59] s1)
     else match Xn f (deep+1) s1 with
      | none=>none
      | some (body,s2)=>
        if k=15/\(QF YW s2).1=true then
         match Xn f (deep+1) (QF YW s2).2 with
         | none=>none
         | some (els,s3)=>some (.mk k reg name ix xs body els (hd s.l).place,s3)
        else some (.mk k reg name ix xs body [] (hd s.l).place,s2)
end
def YA (s:QS):Cx × QS:=
 match QF [45] s with
 | (m,s1)=>match Wi s1 with
   | (c0,s2)=>
     let c:Cx:=if m then ⟨0 - c0.re,0 - c0.im⟩ else c0
     if c.im≠0∨s2.code≠0 then (c,s2) else
     match QF [45] s2 with
     | (m2,s3)=>match (if m2 then (true,s3) else QF [43] s3) with
       | (q,s4)=>if q=false then (c,s4) else
         match Wi s4 with
         | (d,s5)=>(⟨c.re,if m2 then 0 - d.im else d.im⟩,if d.im=0 then s5.wrong (hd s4.l).place 1 else s5)
theorem Vc {s:QS} (h:s.code≠0) (a b:Int):s.wrong a b=s:=if_neg h
theorem Zv {s:QS} (h:s.code≠0) (w:Bs):QF w s=(false,s):=if_neg fun x=>h x.1
theorem YB {s:QS} (h:s.code≠0) (w:Bs):WC w s=s:=by unfold WC;rw[Zv h];exact Vc h _ _
theorem UP {s:QS} (h:s.code≠0):WU s=([],s):=by
 unfold WU;rw[Vc h,if_neg h,ite_self]
theorem QCq {s:QS} (h:s.code≠0):Wi s=(zero,s):=by
 unfold Wi;rw[Vc h,if_neg h,ite_self]
theorem uR {s:QS} (h:s.code≠0):Xe s=(0,s):=if_neg fun x=>h x.1
theorem wB {f k:Nat} {e:Ex} {s:QS} (h:s.code≠0):chM (f+1) k e s=some (e,s):=by
 rw[chM];by_cases hk:k=0
 ·rw[if_pos hk,if_neg h]
 ·rw[if_neg hk,if_neg fun x=>h x.1]
theorem exM_bad3 {f:Nat} {s:QS} (h:s.code≠0):exM (f+1) 3 s=some (.mk wReg zero [] [],s):=by
 rw[exM,if_neg (by omega),if_neg h,UP h]
theorem exM_bad2 {f:Nat} {s:QS} (h:s.code≠0):exM (f+2) 2 s=some (.mk wReg zero [] [],s):=by
 rw[exM,if_pos (by omega),exM_bad3 h];exact wB h
theorem exM_bad1 {f:Nat} {s:QS} (h:s.code≠0):exM (f+3) 1 s=some (.mk wReg zero [] [],s):=by
 rw[exM,if_pos (by omega),exM_bad2 h];exact wB h
theorem exM_bad0 {f:Nat} {s:QS} (h:s.code≠0):exM (f+4) 0 s=some (.mk wReg zero [] [],s):=by
 rw[exM,if_pos (by omega),exM_bad1 h];exact wB h
theorem ju {f:Nat} {s:QS} (h:s.code≠0):XJ (f+4) s=some (.mk wReg zero [] [],s):=by
 unfold XJ;rw[exM_bad0 h];simp only;rw[if_neg fun x=>h x.1]
theorem ZK {f:Nat} {s:QS} (h:s.code≠0):∀ (n:Nat) (c:Bool),∃ xs,Xk (f+4) c n s=some (xs,s)
 | 0,_=>⟨[],rfl⟩
 | n+1,c=>by
   obtain⟨xs,hx⟩:=ZK (f:=f) h n true;refine⟨.mk wReg zero [] []::xs,?_⟩;rw[Xk,YB h,ite_self,ju h];simp only;rw[hx]
theorem Qoq {f k:Nat} {s:QS} (h:s.code≠0):∃ r,Zb (f+4) k s=some (r,s):=by
 unfold Zb;simp only[UP h,Zv h];by_cases hn:Qz k=true
 ·rw[if_pos hn,if_neg fun x=>Bool.noConfusion x.2];exact⟨_,rfl⟩
 ·rw[if_neg hn];exact⟨_,rfl⟩
theorem UN {f d:Nat} {s:QS} (h:s.code≠0):Ja (f+1) d s=some ([],s):=by rw[Ja,if_neg h]
theorem vF {f d:Nat} {s:QS} (h:s.code≠0):Xn (f+2) d s=some ([],s):=by
 rw[Xn];simp only[YB h,Vc h,ite_self];exact UN h
def WordL (l:List Tok):Prop:=∀ t∈l,t.kind=1->∃ c r,t.text=c::r/\QX c=true
structure QL (l:List Tok):Prop where
 tok:TokL l
 word:WordL l
theorem QL.sub {l l2:List Tok} (h:QL l) (h2:TokL l2) (hs:l2 <:+ l):QL l2:=⟨h2,fun t ht=>h.word t (hs.subset ht)⟩
theorem QL.tail {l:List Tok} (h:QL l) (h0:(hd l).kind≠0):QL l.tail:=h.sub (h.tok.tail h0) (List.tail_suffix l)
theorem QL.hd_mem {l:List Tok} (h:QL l):hd l∈l:=by
 obtain⟨t,r,rfl,_⟩:=h.tok.cons;exact List.mem_cons_self
theorem XX {s:Bs} {l l2:List Tok} {u:Unit} (h:QZ s l = .ok (u,l2)):l2 <:+ l:=by
 unfold QZ at h;split at h
 ·cases h;exact List.tail_suffix _
 ·cases h
theorem YC {l l2:List Tok} {n:Bs} (h:WI l = .ok (n,l2)):l2 <:+ l:=by
 unfold WI at h;split at h
 ·cases h;exact List.tail_suffix _
 ·cases h
theorem Qbz:∀ f,(∀ k l e l2,exE f k l = .ok (e,l2)->l2 <:+ l)/\(∀ k e0 l e l2,chE f k e0 l = .ok (e,l2)->l2 <:+ l)
 | 0=>⟨fun k l e l2 h=>(by rw[exE] at h;cases h),fun k e0 l e l2 h=>(by rw[chE] at h;cases h)⟩
 | f+1=>by
   obtain⟨ih1,ih2⟩:=Qbz f;have tl:=fun l:List Tok=>List.tail_suffix l;refine⟨fun k l e l2 h=>?_,fun k e0 l e l2 h=>?_⟩
   ·rw[exE] at h;split at h
    ·split at h
     ·cases h
     ·rename_i e1 l1 h1;exact (ih2 _ _ _ _ _ h).trans (ih1 _ _ _ _ h1)
    ·split at h
     ·split at h
      ·cases h
      ·rename_i e1 l1 h1;cases h;exact (ih1 _ _ _ _ h1).trans (tl l)
     ·split at h
      ·cases h;exact tl l
      ·split at h
       ·split at h
        ·cases h
        ·rename_i e1 l1 h1;split at h
         ·cases h
         ·rename_i u l3 h3;cases h;exact ((XX h3).trans (ih1 _ _ _ _ h1)).trans (tl l)
       ·split at h
        ·cases h
        ·rename_i n l1 h1;cases h;exact YC h1
   ·rw[chE] at h;split at h
    ·cases h;exact List.suffix_refl _
    ·split at h
     ·cases h
     ·rename_i e1 l1 h1;have hl1:=(ih1 _ _ _ _ h1).trans (tl l);split at h
      ·cases h;exact hl1
      ·exact (ih2 _ _ _ _ _ h).trans hl1
theorem Vw {f:Nat} {l l2:List Tok} {e:Ex} (h:Ww f l = .ok (e,l2)):l2 <:+ l:=by
 unfold Ww at h;split at h
 ·cases h
 ·rename_i e1 l1 h1;split at h
  ·cases h
  ·cases h;exact (Qbz f).1 _ _ _ _ h1
theorem jr {f:Nat}:∀ (n:Nat) (comma:Bool) (l l2:List Tok) (es:List Ex),wholes f comma n l = .ok (es,l2)->l2 <:+ l
 | 0,comma,l,l2,es,h=>by rw[wholes] at h;cases h;exact List.suffix_refl _
 | n+1,comma,l,l2,es,h=>by
   rw[wholes] at h;split at h
   ·cases h
   ·rename_i u l1 h1;have k1:l1 <:+ l:=by
     cases comma with
     | true=>exact XX h1
     | false=>cases h1;exact List.suffix_refl _
    split at h
    ·cases h
    ·rename_i x l3 h3;split at h
     ·cases h
     ·rename_i xs l4 h4;cases h;exact ((jr n true _ _ _ h4).trans (Vw h3)).trans k1
theorem vj {l l2:List Tok} {r:Nat × Bs} (h:XK l = .ok (r,l2)):l2 <:+ l:=by
 unfold XK at h;split at h
 ·split at h
  ·cases h
  ·rename_i reg' l1 h1;split at h
   ·cases h
   ·rename_i u l3 h3;have k:=(XX h3).trans (YC h1);split at h
    ·cases h;split
     ·exact k
     ·exact (List.tail_suffix _).trans k
    ·cases h
 ·split at h
  ·cases h
  ·cases h;exact List.tail_suffix _
theorem zA {f k:Nat} {l l2:List Tok} {r:Bs × Bool × List Ex} (h:WK f k l = .ok (r,l2)):l2 <:+ l:=by
 unfold WK at h;split at h
 ·split at h
  ·cases h
  ·rename_i name l1 h1;have k1:=YC h1;split at h
   ·split at h
    ·cases h
    ·rename_i x l3 h3;split at h
     ·cases h
     ·rename_i u l4 h4;cases h;exact (((XX h4).trans (Vw h3)).trans (List.tail_suffix _)).trans k1
   ·cases h;exact k1
 ·cases h;exact List.suffix_refl _
theorem uW {f:Nat} {l l2:List Tok} {r:Int × Bs × Bs × Bool × List Ex} (h:Ut f l = .ok (r,l2)):l2 <:+ l:=by
 rw[Zi] at h;split at h
 ·cases h
 ·rename_i k reg l1 h1;split at h
  ·cases h
  ·rename_i name ix xs l3 h3;split at h
   ·cases h
   ·rename_i ys l4 h4;cases h;exact ((jr _ _ _ _ _ h4).trans (zA h3)).trans (vj h1)
theorem yD:∀ f,(∀ d l b l2,QT f d l = .ok (b,l2)->l2 <:+ l)/\(∀ d l b l2,Xw f d l = .ok (b,l2)->l2 <:+ l)/\(∀ d l s l2,Xl f d l = .ok (s,l2)->l2 <:+ l)
 | 0=>⟨fun d l b l2 h=>(by rw[QT] at h;cases h),fun d l b l2 h=>(by rw[Xw] at h;cases h),fun d l b l2 h=>(by rw[Xl] at h;cases h)⟩
 | f+1=>by
   obtain⟨ihb,ihr,ihs⟩:=yD f;refine⟨fun d l b l2 h=>?_,fun d l b l2 h=>?_,fun d l s l2 h=>?_⟩
   ·rw[QT] at h;split at h
    ·cases h
    ·rename_i u l1 h1;split at h
     ·cases h
     ·exact (ihr _ _ _ _ h).trans (XX h1)
   ·rw[Xw] at h;split at h
    ·cases h;exact List.tail_suffix _
    ·split at h
     ·cases h
     ·rename_i s l1 h1;split at h
      ·cases h
      ·rename_i ss l3 h3;cases h;exact (ihr _ _ _ _ h3).trans (ihs _ _ _ _ h1)
   ·rw[Xl] at h;split at h
    ·cases h
    ·rename_i k reg name ix xs r h1;have k1:=uW h1;split at h
     ·split at h
      ·cases h
      ·rename_i u l3 h3;cases h;exact (XX h3).trans k1
     ·split at h
      ·cases h
      ·rename_i body l3 h3;have k3:=(ihb _ _ _ _ h3).trans k1;split at h
       ·split at h
        ·cases h
        ·rename_i els l5 h5;cases h;exact ((ihb _ _ _ _ h5).trans (List.tail_suffix _)).trans k3
       ·cases h;exact k3
def QO (d:Dc):V:=.agg [.int .i64 d.sort,.str (bs d.name),Qu d.num,.slice (Qr d.body),.int .i64 d.place]
theorem uA {t:Tok} {k:Nat} (h2:k<6) (hn:∀ j,j<k->t.isB (QW.getD j [])=false) (hb:t.isB (QW.getD k [])=true):Wz t=k:=by
 unfold Wz;have:(List.range 6).find? (fun k=>t.isB (QW.getD k []))=some k:=by
  rw[List.find?_range_eq_some];exact⟨hb,List.mem_range.2 h2,fun j hj=>by rw[hn j hj];rfl⟩
 rw[this];rfl
theorem Uh {t:Tok} (hn:∀ j,j<6->t.isB (QW.getD j [])=false):Wz t=6:=by
 unfold Wz;have:(List.range 6).find? (fun k=>t.isB (QW.getD k []))=none:=by
  rw[List.find?_range_eq_none];exact fun j hj=>by rw[hn j hj];rfl
 rw[this];rfl
theorem Qnw {c:Cx} {l l2:List Tok} {z:Cx} (hl:TokL l) (h:second c l = .ok (z,l2)):Left 0 l l2/\l2 <:+ l:=by
 unfold second at h;split at h
 ·cases h;exact⟨.refl hl,List.suffix_refl _⟩
 ·split at h
  ·cases h;exact⟨.refl hl,List.suffix_refl _⟩
  ·rename_i hs;have h0:(hd l).kind≠0:=fun h0=>hs (by simp[Tok.isB,h0]);have k1:=Left.tail hl h0;split at h
   ·cases h
   ·rename_i hk;cases h;have h2:(hd l.tail).kind=2:=by
     rcases Int.decEq (hd l.tail).kind 2 with hx|hx
     ·exact absurd (.inl hx) hk
     ·exact hx
    exact⟨(k1.trans (Left.tail k1.1 (by rw[h2];decide)) (by omega)),(List.tail_suffix _).trans (List.tail_suffix _)⟩
theorem VM {l l2:List Tok} {z:Cx} (hl:TokL l) (h:Wn l = .ok (z,l2)):Left 1 l l2/\l2 <:+ l:=by
 rw[JG] at h;have key:∀ l1,TokL l1->Left 0 l l1->l1 <:+ l->(if (hd l1).kind≠2 then .error ((hd l1).place,WE) else second (if (hd l).isB [45] then ⟨0 - (hd l1).num.re,0 - (hd l1).num.im⟩ else (hd l1).num) l1.tail)=(.ok (z,l2):PR Cx)->Left 1 l l2/\l2 <:+ l:=fun l1 h1 k1 s1 h=>by
  split at h
  ·cases h
  ·rename_i hk;have h2:(hd l1).kind=2:=by
    rcases Int.decEq (hd l1).kind 2 with hx|hx
    ·exact absurd hx hk
    ·exact hx
   have k2:=Left.tail h1 (by rw[h2];decide);obtain⟨k3,s3⟩:=Qnw k2.1 h;exact⟨(k1.trans k2 (Nat.le_refl _)).trans k3 (by omega),(s3.trans (List.tail_suffix _)).trans s1⟩
 simp only at h;by_cases hm:(hd l).isB [45]=true
 ·rw[if_pos hm] at h;have k1:=Left.tail hl (QC hm);exact key l.tail k1.1 (k1.trans (.refl k1.1) (by omega)) (List.tail_suffix _) h
 ·rw[if_neg hm] at h;exact key l hl (.refl hl) (List.suffix_refl _) h
theorem NumL.sub {l l2:List Tok} (h:NumL l) (hs:l2 <:+ l):NumL l2:=fun t ht=>h t (hs.subset ht)
structure YD where
 k:Nat
 s:Nat
 l:List Tok
structure JD (l0:List Tok) (x:YD):Prop where
 k:x.k<=6
 at0:(x.s=6/\x.l=l0/\∀ j,j<x.k->(hd l0).isB (QW.getD j [])=false)∨(x.s<6/\Wz (hd l0)=x.s/\x.l=l0.tail/\(hd l0).kind≠0)
def Yg (s:Nat) (name:Bs) (z:Cx) (place:Int):List V:=[.int .i64 s,.str (bs name),.cplx .f64 (fz z.re) (fz z.im),.snil,.int .i64 place]
def dc0:List V:=[.int .i64 0,.str (bs []),.cplx .f64 0 0,.snil,.int .i64 0]
theorem decl_ok (f:Nat) (l:List Tok) (hl:TokL l) (hnum:NumL l) (hlen:l.length<=1000000) (hok:okR (XU f l)):APd 58 [] l 0 QO (XU f l):=by
 intro p;refine ADet.down (ex:=[1000035,1000050]) ?_;obtain⟨t,r,rfl,ht,htk⟩:=hl.cons;refine ent Tryz.func58 fun L K hL hR hN hP=>?_;have hpL:p.1<L:=hL p (by simp[Qa.keys]);have ne1:¬ (L,0)=p:=fun e=>by rw[<- e] at hpL;exact Nat.lt_irrefl _ hpL
 have ne2:¬ p=(L,0):=fun e=>ne1 e.symm;have q1:¬ (L,1)=p:=fun e=>by rw[<- e] at hpL;exact Nat.lt_irrefl _ hpL
 have q2:¬ p=(L,1):=fun e=>q1 e.symm;have hz0:fz 0=0:=WZ;have die:∀ e,XU f (t::r) = .error e->∀ s',K (.panic (Zo e)) s':=fun e he s'=>by
  rw[he] at hP;exact hP _ _ _ [] [] (by simp) (by simp) (by simp[Qa.keys]) (by simp[Qa.keys]) (.refl _) ⟨rfl,rfl⟩
 clear hP;simp[pblk,Qg,ne1];refine QB (α:=YD) (JD (t::r)) (fun x=>[(0,.ptr p 0),(2,.ptr (L,0) 0),(3,.ptr (L,1) 0),(13,.int .i64 x.k)]) (fun x=>[((L,1),.cells 84 (Yg x.s [] zero t.place)),((L,0),.cells 84 dc0),(p,pblk x.l 0)]) (fun x=>6 - x.k) ⟨0,6,t::r⟩ ⟨by simp,.inl ⟨rfl,rfl,fun j hj=>by cases hj⟩⟩ (Qb (by simp) (by simp[Yg,dc0,zero,hz0,pblk,Qg]) (by simp[ne1,q1])) ?_;rintro⟨k,s,lx⟩ L1 K1 ⟨hk,hat⟩ hL1 - hnext hex hrt - hpn;simp only at hk hat;simp[Yg];refine Qv.mk (fun hb=>?_) fun hb=>?_
 ·have hk6:k<6:=by simp at hb;omega
  have w1:=wr2 k;rcases hat with⟨rfl,rfl,hno⟩|⟨hs,hso,hlx,hk0⟩
  ·simp;refine Qe.pure (QJz k hk6).up (by decide) ?_;simp;refine Qe.det (ADet.up (Ub (t::r) hl (QW.getD k []) p 0)) ?_ (by simp[Qa.keys]) (by decide) rfl (fun v hv=>?_) (fun v hv=>by simp[outP] at hv)
   ·simp
   cases hv;rcases hbs:(hd (t::r)).isB (QW.getD k [])
   ·simp[stP,ne1,q1,w1];refine hnext _ ⟨k+1,6,t::r⟩ ⟨by simp only;omega,.inl ⟨rfl,rfl,fun j hj=>?_⟩⟩ (by simp only;omega) (Qb (by simp) (by simp[Yg,dc0]) (by simp[ne1,q1]));by_cases e:j=k
    ·rw[e];exact hbs
    ·exact hno j (by simp only at hj;omega)
   ·simp[stP,ne1,q1,q2,w1];exact hnext _ ⟨k+1,k,r⟩ ⟨by simp only;omega,.inr ⟨hk6,uA hk6 hno hbs,rfl,QC hbs⟩⟩ (by simp only;omega) (Qb (by simp) (by simp[Yg,dc0]) (by simp[ne1,q1]))
  ·have hs6:((s:Int) == 6)=false:=by simp;omega
   simp[hs6,w1];exact hnext _ ⟨k+1,s,lx⟩ ⟨by simp only;omega,.inr ⟨hs,hso,hlx,hk0⟩⟩ (by simp only;omega) (Qb (by simp) (by simp[Yg,dc0]) (by simp[ne1,q1]))
 ·have hk6:k=6:=by simp at hb;omega
  subst hk6;refine hex _ _ ?_;rcases hat with⟨rfl,rfl,hno⟩|⟨hs,hso,hlx,hk0⟩
  ·simp;refine Qe.det (ADet.up (YP (t::r) hl 5 p 0)) ?_ (by simp[Qa.keys]) (by decide) rfl (fun v hv=>by simp[outP] at hv) (fun v hv=>?_)
   ·simp
   cases hv;exact die _ (by unfold XU;rw[Uh hno];rfl) _
  ·have hs6:((s:Int) == 6)=false:=by simp;omega
   have htr:TokL lx:=by rw[hlx];exact hl.tail hk0
   have hnr:NumL lx:=by rw[hlx];exact hnum.tail
   have hlr:lx.length<=1000000:=by rw[hlx];simp;simp at hlen;omega
   have hD:XU f (t::r)=match (if s=4 then .ok ([],lx) else WI lx:PR Bs) with
    | .error e=>.error e
    | .ok (name,r)=>
      if s=5 then
       match QT f 0 r with
       | .error e=>.error e
       | .ok (b,r)=>.ok (⟨5,name,zero,b,t.place⟩,r)
      else
       match (if s=2 then .ok (zero,r) else Wn r:PR Cx) with
       | .error e=>.error e
       | .ok (z,r)=>match QZ [59] r with
         | .error e=>.error e
         | .ok (_,r)=>.ok (⟨s,name,z,[],t.place⟩,r):=by
    unfold XU;simp only[hso];rw[if_neg (by omega),hlx,ht];rfl
   simp[hs6];refine Yh (α:=Bs × List Tok) (fun x=>(if s=4 then .ok ([],lx) else WI lx:PR Bs) = .ok x) (fun _=>[(0,.ptr p 0),(2,.ptr (L,0) 0),(3,.ptr (L,1) 0)]) (fun x=>[((L,1),.cells 84 (Yg s x.1 zero t.place)),((L,0),.cells 84 dc0),(p,pblk x.2 0)]) 2 ?_ ?_
   ·intro K1 hnext hex hrt hgo hpn;by_cases hs4:s=4
    ·subst hs4;simp;exact hnext _ ([],lx) (by simp) (Qi (by simp) (by simp) (by simp[Yg,dc0]) (by simp[ne1,q1]))
    ·have hs4b:((s:Int) != 4)=true:=by simp;omega
     simp[hs4b];rcases hn:WI lx with er|⟨nm,l2⟩
     ·refine Qe.det (ADet.up (JS lx htr p 0)) ?_ (by simp[Qa.keys]) (by decide) rfl (fun v hv=>by rw[hn] at hv;simp[outP] at hv) (fun v hv=>?_)
      ·simp
      rw[hn] at hv;cases hv;exact hpn _ _ (die _ (by rw[hD,if_neg hs4,hn]) _)
     ·refine Qe.det (ADet.up (JS lx htr p 0)) ?_ (by simp[Qa.keys]) (by decide) rfl (fun v hv=>?_) (fun v hv=>by rw[hn] at hv;simp[outP] at hv)
      ·simp
      rw[hn] at hv;cases hv;simp[stP,hn,ne1,q1,q2];exact hnext _ (nm,l2) (by simp[hs4,hn]) (Qi (by simp) (by simp) (by simp[Yg,dc0]) (by simp[ne1,q1]))
   ·rintro⟨name,l1⟩ hnm;simp only at hnm ⊢;rw[hnm] at hD;simp only at hD;have k1:Left 0 lx l1/\l1 <:+ lx:=by
     by_cases hs4:s=4
     ·rw[if_pos hs4] at hnm;cases hnm;exact⟨.refl htr,List.suffix_refl _⟩
     ·rw[if_neg hs4] at hnm;exact⟨(Wp htr hnm).trans (.refl (Wp htr hnm).1) (by omega),YC hnm⟩
    have hl1n:l1.length<=1000000:=by have:=k1.1.2;omega
    have hn1:=hnr.sub k1.2;simp[Yg];by_cases hs5:s=5
    ·subst hs5;rw[if_pos rfl] at hD;have hokb:okR (QT f 0 l1):=fun q hq=>hok q (by rw[hD,hq]);have hcall:=ADet.up (ex:=[1000035,1000050]) (block_all f 0 l1 (by omega) k1.1.1 hl1n hokb p);simp;rcases hbk:QT f 0 l1 with er|⟨body,l3⟩
     ·rw[hbk] at hcall hD;refine Qe.det hcall ?_ (by simp[Qa.keys]) (by decide) rfl (fun v hv=>by simp[outP] at hv) (fun v hv=>?_)
      ·simp
      cases hv;exact die _ hD _
     ·rw[hbk] at hcall hD;rw[hD] at hR;refine Qe.det hcall ?_ (by simp[Qa.keys]) (by decide) rfl (fun v hv=>?_) (fun v hv=>by simp[outP] at hv)
      ·simp
      cases hv;simp[stP,ne1,ne2,q1,q2,dc0];exact hR _ (.keep [] [(p,pblk l3 0)] (by simp[Qf,Qj,ne2];rfl) (by simp) (by simp) (by simp[Qa.keys]) (by simp[Qa.keys]) (.refl _) ⟨by simp[outP,QO,Qu],rfl⟩)
    ·rw[if_neg hs5] at hD;have hs5b:((s:Int) == 5)=false:=by simp;omega
     simp[hs5b];refine Yh (α:=Cx × List Tok) (fun x=>(if s=2 then .ok (zero,l1) else Wn l1:PR Cx) = .ok x) (fun _=>[(0,.ptr p 0),(2,.ptr (L,0) 0),(3,.ptr (L,1) 0)]) (fun x=>[((L,1),.cells 84 (Yg s name x.1 t.place)),((L,0),.cells 84 dc0),(p,pblk x.2 0)]) 2 ?_ ?_
     ·intro K1 hnext hex hrt hgo hpn;by_cases hs2:s=2
      ·subst hs2;simp;exact hnext _ (zero,l1) (by simp) (Qi (by simp) (by simp) (by simp[Yg,dc0]) (by simp[ne1,q1]))
      ·have hs2b:((s:Int) == 2)=false:=by simp;omega
       simp[hs2b];rcases hn:Wn l1 with er|⟨z,l2⟩
       ·refine Qe.det (ADet.up (jL l1 k1.1.1 hn1 p 0)) ?_ (by simp[Qa.keys]) (by decide) rfl (fun v hv=>by rw[hn] at hv;simp[outP] at hv) (fun v hv=>?_)
        ·simp
        rw[hn] at hv;cases hv;exact hpn _ _ (die _ (by rw[hD,if_neg hs2,hn]) _)
       ·refine Qe.det (ADet.up (jL l1 k1.1.1 hn1 p 0)) ?_ (by simp[Qa.keys]) (by decide) rfl (fun v hv=>?_) (fun v hv=>by rw[hn] at hv;simp[outP] at hv)
        ·simp
        rw[hn] at hv;cases hv;simp[stP,hn,ne1,q1,q2,Qu];exact hnext _ (z,l2) (by simp[hs2,hn]) (Qi (by simp) (by simp) (by simp[Yg,dc0]) (by simp[ne1,q1]))
     ·rintro⟨z,l2⟩ hz;simp only at hz ⊢;rw[hz] at hD;simp only at hD;have k2:TokL l2:=by
       by_cases hs2:s=2
       ·rw[if_pos hs2] at hz;cases hz;exact k1.1.1
       ·rw[if_neg hs2] at hz;exact (VM k1.1.1 hz).1.1
      simp[Yg];rcases hmu:QZ [59] l2 with er|⟨u,l3⟩
      ·rw[hmu] at hD;refine Qe.det (ADet.up (Xy l2 k2 [59] p 0)) ?_ (by simp[Qa.keys]) (by decide) rfl (fun v hv=>by rw[hmu] at hv;simp[outP] at hv) (fun v hv=>?_)
       ·simp
       rw[hmu] at hv;cases hv;exact die _ hD _
      ·rw[hmu] at hD;rw[hD] at hR;refine Qe.det (ADet.up (Xy l2 k2 [59] p 0)) ?_ (by simp[Qa.keys]) (by decide) rfl (fun v hv=>?_) (fun v hv=>by rw[hmu] at hv;simp[outP] at hv)
       ·simp
       rw[hmu] at hv;cases hv;simp[stP,hmu,ne1,ne2,q1,q2,dc0];refine hR _ (.keep [] [(p,pblk l3 0)] (by simp[Qf,Qj,ne2];rfl) (by simp) (by simp) (by simp[Qa.keys]) (by simp[Qa.keys]) (v':=QO ⟨s,name,z,[],t.place⟩) ?_ ⟨rfl,rfl⟩);exact .agg (.cons (.refl _) (.cons (.refl _) (.cons (.refl _) (.cons .snil (.cons (.refl _) .nil)))))
end Go.Awp.R1
