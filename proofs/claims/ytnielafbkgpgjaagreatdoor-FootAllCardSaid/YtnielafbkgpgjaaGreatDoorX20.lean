/- The program's own parser: whole expressions. -/
import Derived.Test.YtnielafbkgpgjaaGreatDoorX19
set_option linter.all false
set_option maxRecDepth 100000
set_option maxHeartbeats 8000000
namespace Go.Awp.R1
open Go Go.Awp Go.Proofs Go.Awp.Sp
theorem JF:∀ {n m:Nat} {e:Ex},okE n e->n<=m->okE m e
 | 0,_,_,h,_=>h.elim
 | n+1,0,_,_,h=>by omega
 | n+1,m+1,.mk _ _ _ ps,h,hm=>⟨h.1,fun p hp=>JF (h.2 p hp) (by omega)⟩
theorem TokL.len {l:List Tok} (h:TokL l):l.tail.length+1=l.length:=by
 obtain⟨t,r,rfl,_⟩:=h.cons;rfl
theorem uK {s:Bs} {l l2:List Tok} {u:Unit} (hl:TokL l) (h:QZ s l = .ok (u,l2)):l2.length+1=l.length:=by
 unfold QZ at h;split at h
 ·cases h;exact hl.len
 ·cases h
theorem uJ {l l2:List Tok} {n:Bs} (hl:TokL l) (h:WI l = .ok (n,l2)):l2.length+1=l.length:=by
 unfold WI at h;split at h
 ·cases h;exact hl.len
 ·cases h
theorem vo:∀ f,(∀ k l e l2,TokL l->exE f k l = .ok (e,l2)->∃ c,l2.length+c=l.length/\okE c e)/\(∀ k e0 l e l2 m,okE m e0->TokL l->chE f k e0 l = .ok (e,l2)->∃ c,l2.length+c=l.length/\okE (m+c) e)
 | 0=>⟨fun k l e l2 _ h=>(by rw[exE] at h;cases h),fun k e0 l e l2 m _ _ h=>(by rw[chE] at h;cases h)⟩
 | f+1=>by
   obtain⟨ih1,ih2⟩:=vo f;have leaf:∀ (a:Bs) (b:Cx) (c:Bs),okE 1 (.mk a b c []):=fun a b c=>⟨by simp,fun p hp=>by cases hp⟩
   refine⟨fun k l e l2 hl h=>?_,fun k e0 l e l2 m hm hl h=>?_⟩
   ·rw[exE] at h;split at h
    ·split at h
     ·cases h
     ·rename_i e1 l1 h1;obtain⟨c1,hc1,ho1⟩:=ih1 _ _ _ _ hl h1;obtain⟨c2,hc2,ho2⟩:=ih2 _ _ _ _ _ _ ho1 ((ZF f).1 _ _ _ _ hl h1) h;exact⟨c1+c2,by omega,ho2⟩
    ·split at h
     ·rename_i op hop;split at h
      ·cases h
      ·rename_i e1 l1 h1;cases h;have ht:=hl.tail (ZM hop);obtain⟨c1,hc1,ho1⟩:=ih1 _ _ _ _ ht h1;have:=hl.len;exact⟨c1+1,by omega,⟨by simp,fun p hp=>by rw[List.mem_singleton.1 hp];exact ho1⟩⟩
     ·split at h
      ·cases h;exact⟨1,hl.len,leaf _ _ _⟩
      ·split at h
       ·rename_i hb;split at h
        ·cases h
        ·rename_i e1 l1 h1;split at h
         ·cases h
         ·rename_i u l3 h3;cases h;have ht:=hl.tail (QC hb);obtain⟨c1,hc1,ho1⟩:=ih1 _ _ _ _ ht h1;have h2:=uK ((ZF f).1 _ _ _ _ ht h1) h3;have:=hl.len;exact⟨c1+2,by omega,JF ho1 (by omega)⟩
       ·split at h
        ·cases h
        ·rename_i n l1 h1;cases h;exact⟨1,uJ hl h1,leaf _ _ _⟩
   ·rw[chE] at h;split at h
    ·cases h;exact⟨0,rfl,hm⟩
    ·rename_i op hop;have ht:=hl.tail (YR hop);have hlen:=hl.len;split at h
     ·cases h
     ·rename_i e1 l1 h1;obtain⟨c1,hc1,ho1⟩:=ih1 _ _ _ _ ht h1;have hnew:okE (m+c1+1) (.mk op zero [] [e0,e1]):=⟨by simp,fun p hp=>by
       simp at hp;rcases hp with rfl|rfl
       ·exact JF hm (by omega)
       ·exact JF ho1 (by omega)⟩
      split at h
      ·cases h;exact⟨c1+1,by omega,JF hnew (by omega)⟩
      ·obtain⟨c2,hc2,ho2⟩:=ih2 _ _ _ _ _ _ hnew ((ZF f).1 _ _ _ _ ht h1) h;exact⟨c1+1+c2,by omega,JF ho2 (by omega)⟩
theorem uv (f:Nat) (l:List Tok) (hl:TokL l) (hlen:l.length<=1000000) (hok:okR (Ww f l)):APar 163 [] l Qh (Ww f l):=by
 intro p deep;obtain⟨t,r,rfl,ht,htk⟩:=hl.cons;have hoke:okR (exE f 0 (t::r)):=fun q hq=>hok q (by unfold Ww;rw[hq]);have hcall:=(expr_all f).2 0 (t::r) (by omega) hl hoke p deep;refine ent Tryz.func163 fun L K hL hR hN hP=>?_;have hpL:p.1<L:=hL p (by simp[Qa.keys]);have ne1:¬ (L,0)=p:=fun e=>by rw[<- e] at hpL;exact Nat.lt_irrefl _ hpL
 have ne2:¬ p=(L,0):=fun e=>ne1 e.symm;have q1:¬ (L,1)=p:=fun e=>by rw[<- e] at hpL;exact Nat.lt_irrefl _ hpL
 have q2:¬ p=(L,1):=fun e=>q1 e.symm;simp[pblk,Qg,ne1];rcases hr:exE f 0 (t::r) with er|⟨e,l2⟩
 ·rw[hr] at hcall;have hw:Ww f (t::r) = .error er:=by unfold Ww;rw[hr]
  rw[hw] at hP;refine Qe.det hcall ?_ (by simp[Qa.keys]) (by decide) rfl (fun v hv=>by simp[outP] at hv) (fun v hv=>?_)
  ·simp[pblk,Qg]
  cases hv;exact hP _ _ _ [] [] (by simp) (by simp) (by simp[Qa.keys]) (by simp[Qa.keys]) (.refl _) ⟨rfl,rfl⟩
 ·rw[hr] at hcall;obtain⟨c,hc,ho⟩:=(vo f).1 _ _ _ _ hl hr;have hdep:=QMz c e (by omega) ho;refine Qe.det hcall ?_ (by simp[Qa.keys]) (by decide) rfl (fun v hv=>?_) (fun v hv=>by simp[outP] at hv)
  ·simp[pblk,Qg]
  cases hv;have hw:Ww f (t::r)=if 12<WA e then .error (t.place,qa) else .ok (e,l2):=by unfold Ww;rw[hr,ht]
  obtain⟨eo,en,em,ep⟩:=e;simp[stP,Qh,ne1];refine Qc hdep ?_;by_cases hd:12<WA (.mk eo en em ep)
  ·rw[if_pos hd] at hw;rw[hw] at hP;have hdi:decide ((12:Int)<((WA (.mk eo en em ep):Nat):Int))=true:=decide_eq_true (by omega);simp[hdi];exact hP _ _ _ [] [] (by simp) (by simp) (by simp[Qa.keys]) (by simp[Qa.keys]) (.refl _) ⟨rfl,rfl⟩
  ·rw[if_neg hd] at hw;rw[hw] at hR;have hdi:decide ((12:Int)<((WA (.mk eo en em ep):Nat):Int))=false:=decide_eq_false (by omega);simp[hdi,ne2];exact hR _ (.keep [] [(p,pblk l2 deep)] (by simp[Qf,Qj,ne2];rfl) (by simp) (by simp) (by simp[Qa.keys]) (by simp[Qa.keys]) (.refl _) ⟨by simp[outP,Qh],rfl⟩)
def Left (c:Nat) (l l2:List Tok):Prop:=TokL l2/\l2.length+c<=l.length
theorem Left.trans {a b c:Nat} {l l2 l3:List Tok} (h:Left a l l2) (k:Left b l2 l3) (hc:c<=a+b):Left c l l3:=⟨k.1,by have:=h.2;have:=k.2;omega⟩
theorem Left.refl {l:List Tok} (h:TokL l):Left 0 l l:=⟨h,Nat.le_refl _⟩
theorem Left.tail {l:List Tok} (h:TokL l) (h0:(hd l).kind≠0):Left 1 l l.tail:=⟨h.tail h0,by have:=h.len;omega⟩
theorem Wq {s:Bs} {l l2:List Tok} {u:Unit} (hl:TokL l) (h:QZ s l = .ok (u,l2)):Left 1 l l2:=⟨Jp hl h,by have:=uK hl h;omega⟩
theorem Wp {l l2:List Tok} {n:Bs} (hl:TokL l) (h:WI l = .ok (n,l2)):Left 1 l l2:=⟨Vl hl h,by have:=uJ hl h;omega⟩
theorem okE_cap:∀ {n:Nat} {e:Ex} {m:Nat},okE n e->WA e<=m->okE m e
 | 0,_,_,h,_=>h.elim
 | n+1,.mk a b c ps,0,_,hd=>by rw[WA] at hd;omega
 | n+1,.mk a b c ps,m+1,h,hd=>by
   rw[WA] at hd;have mem:∀ (l:List Ex) (p:Ex),p∈l->WA p<=Xv l:=fun l=>by
    induction l with
    | nil=>intro p hp;cases hp
    | cons x l ih=>
      intro p hp;rw[Xv];rcases List.mem_cons.1 hp with rfl|hp
      ·omega
      ·have:=ih p hp;omega
   exact⟨h.1,fun p hp=>okE_cap (h.2 p hp) (by have:=mem ps p hp;omega)⟩
theorem Xp {f:Nat} {l l2:List Tok} {e:Ex} (hl:TokL l) (h:Ww f l = .ok (e,l2)):Left 1 l l2/\okE 13 e:=by
 unfold Ww at h;split at h
 ·cases h
 ·rename_i e1 l1 h1;split at h
  ·cases h
  ·rename_i hd;cases h;obtain⟨c,hc,ho⟩:=(vo f).1 _ _ _ _ hl h1;have h0:1<=c:=by
    cases c with
    | zero=>exact ho.elim
    | succ=>omega
   exact⟨⟨(ZF f).1 _ _ _ _ hl h1,by omega⟩,okE_cap ho (by omega)⟩
theorem Ue {f:Nat}:∀ (n:Nat) (comma:Bool) (l l2:List Tok) (es:List Ex),TokL l->wholes f comma n l = .ok (es,l2)->Left 0 l l2/\es.length=n
 | 0,comma,l,l2,es,hl,h=>by
   rw[wholes] at h;cases h;exact⟨.refl hl,rfl⟩
 | n+1,comma,l,l2,es,hl,h=>by
   rw[wholes] at h;split at h
   ·cases h
   ·rename_i u l1 h1;have k1:Left 0 l l1:=by
     cases comma with
     | true=>exact (Left.refl hl).trans (Wq hl h1) (by omega)
     | false=>cases h1;exact .refl hl
    split at h
    ·cases h
    ·rename_i x l3 h3;have k3:=(Xp k1.1 h3).1;split at h
     ·cases h
     ·rename_i xs l4 h4;cases h;obtain⟨k4,hlen⟩:=Ue n true _ _ _ k3.1 h4;exact⟨(k1.trans k3 (Nat.zero_le _)).trans k4 (by omega),by simp[hlen]⟩
def XK (l:List Tok):PR (Nat × Bs):=
 if kindOf (hd l)=0 then
  match WI l with
  | .error e=>.error e
  | .ok (reg,l)=>match QZ [61] l with
    | .error e=>.error e
    | .ok (_,l)=>
      if Wh (kindOf (hd l)) then .ok ((kindOf (hd l),reg),if kindOf (hd l)=0 then l else l.tail) else .error ((hd (if kindOf (hd l)=0 then l else l.tail)).place,Jh)
 else if Wh (kindOf (hd l)) then .error ((hd l.tail).place,Jh) else .ok ((kindOf (hd l),[]),l.tail)
def WK (f:Nat) (k:Nat) (l:List Tok):PR (Bs × Bool × List Ex):=
 if Qz k then
  match WI l with
  | .error e=>.error e
  | .ok (name,l)=>
    if Xt k&&(hd l).isB [91] then
     match Ww f l.tail with
     | .error e=>.error e
     | .ok (x,l)=>match QZ [93] l with
       | .error e=>.error e
       | .ok (_,l)=>.ok ((name,true,[x]),l)
    else .ok ((name,false,[]),l)
 else .ok (([],false,[]),l)
theorem Zi (f:Nat) (l:List Tok):Ut f l=match XK l with
 | .error e=>.error e
 | .ok ((k,reg),l)=>match WK f k l with
   | .error e=>.error e
   | .ok ((name,ix,xs),l)=>match wholes f (Qz k) (QR k) l with
     | .error e=>.error e
     | .ok (ys,l)=>.ok (((k:Int),reg,name,ix,xs++ys),l):=rfl
theorem Yq {t:Tok} (h:kindOf t≠0):t.kind≠0:=by
 unfold kindOf at h;cases hf:(List.range 17).find? (fun k=>k != 0&&t.isB (Qy.getD k [])) with
 | none=>rw[hf] at h;exact absurd rfl h
 | some k=>
   have:=List.find?_some hf;simp only[Bool.and_eq_true] at this;exact QC this.2
theorem ZR {l l2:List Tok} {k:Nat} {reg:Bs} (hl:TokL l) (h:XK l = .ok ((k,reg),l2)):Left 1 l l2:=by
 unfold XK at h;split at h
 ·split at h
  ·cases h
  ·rename_i reg' l1 h1;have k1:=Wp hl h1;split at h
   ·cases h
   ·rename_i u l3 h3;have k3:=Wq k1.1 h3;split at h
    ·cases h;split
     ·exact k1.trans k3 (by omega)
     ·rename_i hk;exact (k1.trans k3 (Nat.le_refl _)).trans (Left.tail k3.1 (Yq hk)) (by omega)
    ·cases h
 ·rename_i hk;split at h
  ·cases h
  ·cases h;exact Left.tail hl (Yq hk)
theorem Za {f k:Nat} {l l2:List Tok} {r:Bs × Bool × List Ex} (hl:TokL l) (h:WK f k l = .ok (r,l2)):Left 0 l l2:=by
 unfold WK at h;split at h
 ·split at h
  ·cases h
  ·rename_i name l1 h1;have k1:=Wp hl h1;split at h
   ·rename_i hb;simp only[Bool.and_eq_true] at hb;have k2:=Left.tail k1.1 (QC hb.2);split at h
    ·cases h
    ·rename_i x l3 h3;have k3:=(Xp k2.1 h3).1;split at h
     ·cases h
     ·rename_i u l4 h4;cases h;exact ((k1.trans k2 (Nat.zero_le _)).trans k3 (Nat.zero_le _)).trans (Wq k3.1 h4) (Nat.zero_le _)
   ·cases h;exact (Left.refl hl).trans k1 (Nat.zero_le _)
 ·cases h;exact .refl hl
theorem ZC {f:Nat} {l l2:List Tok} {r:Int × Bs × Bs × Bool × List Ex} (hl:TokL l) (h:Ut f l = .ok (r,l2)):Left 1 l l2:=by
 rw[Zi] at h;split at h
 ·cases h
 ·rename_i k reg l1 h1;have k1:=ZR hl h1;split at h
  ·cases h
  ·rename_i name ix xs l3 h3;have k3:=Za k1.1 h3;split at h
   ·cases h
   ·rename_i ys l4 h4;cases h;exact (k1.trans k3 (Nat.le_refl _)).trans (Ue _ _ _ _ _ k3.1 h4).1 (by omega)
theorem Yc:∀ f,(∀ d l b l2,TokL l->QT f d l = .ok (b,l2)->Left 2 l l2)/\(∀ d l b l2,TokL l->Xw f d l = .ok (b,l2)->Left 1 l l2/\b.length+l2.length+1<=l.length)/\(∀ d l s l2,TokL l->Xl f d l = .ok (s,l2)->Left 2 l l2)
 | 0=>⟨fun d l b l2 _ h=>(by rw[QT] at h;cases h),fun d l b l2 _ h=>(by rw[Xw] at h;cases h),fun d l b l2 _ h=>(by rw[Xl] at h;cases h)⟩
 | f+1=>by
   obtain⟨ihb,ihr,ihs⟩:=Yc f;refine⟨fun d l b l2 hl h=>?_,fun d l b l2 hl h=>?_,fun d l s l2 hl h=>?_⟩
   ·rw[QT] at h;split at h
    ·cases h
    ·rename_i u l1 h1;have k1:=Wq hl h1;split at h
     ·cases h
     ·exact k1.trans (ihr _ _ _ _ k1.1 h).1 (by omega)
   ·rw[Xw] at h;split at h
    ·rename_i hb;cases h;have k1:=Left.tail hl (QC hb);exact⟨k1,by have:=k1.2;simp;omega⟩
    ·split at h
     ·cases h
     ·rename_i s l1 h1;have k1:=ihs _ _ _ _ hl h1;split at h
      ·cases h
      ·rename_i ss l3 h3;cases h;obtain⟨k3,hlen⟩:=ihr _ _ _ _ k1.1 h3;exact⟨k1.trans k3 (by omega),by have:=k1.2;simp;omega⟩
   ·rw[Xl] at h;split at h
    ·cases h
    ·rename_i k reg name ix xs r h1;have k1:=ZC hl h1;split at h
     ·split at h
      ·cases h
      ·rename_i u l3 h3;cases h;exact k1.trans (Wq k1.1 h3) (by omega)
     ·split at h
      ·cases h
      ·rename_i body l3 h3;have k3:=ihb _ _ _ _ k1.1 h3;split at h
       ·rename_i hb;have k4:=Left.tail k3.1 (QC hb.2);split at h
        ·cases h
        ·rename_i els l5 h5;cases h;exact ((k1.trans k3 (Nat.le_refl _)).trans k4 (Nat.le_refl _)).trans (ihb _ _ _ _ k4.1 h5) (by omega)
       ·cases h;exact k1.trans k3 (by omega)
mutual
def We:St->V
 | .mk kind reg name ix exprs body els place=>.agg [.int .i64 kind,.str (bs reg),.str (bs name),.bool ix,.slice (Qm exprs),.slice (Qr body),.slice (Qr els),.int .i64 place]
def Qr:List St->List V
 | []=>[]
 | s::r=>We s::Qr r
end
theorem WG (l:List St):Qr l=l.map We:=by
 induction l with
 | nil=>rfl
 | cons e r ih=>rw[Qr,ih];rfl
def APd {α:Type} (f:FuncId) (args:List V) (l:List Tok) (deep:Nat) (enc:α->V) (r:PR α):Prop:=
 ∀ (p:Id),ADet TC f (.ptr p 0::args) [(p,pblk l (deep:Int))] (outP enc r) (stP p (deep:Int) r)
def Qiw (f:Nat):Prop:=∀ deep l,deep<=12->TokL l->l.length<=1000000->okR (QT f deep l)->APd 89 [] l deep (fun ss=>V.slice (Qr ss)) (QT f deep l)
def Wkw (f:Nat):Prop:=∀ deep l,deep<=12->TokL l->l.length<=1000000->okR (Xl f deep l)->APd 135 [] l deep We (Xl f deep l)
def pre (out:List St):PR (List St)->PR (List St)
 | .error e=>.error e
 | .ok (ss,l)=>.ok (out++ss,l)
structure XB where
 g:Nat
 out:List St
 l:List Tok
structure JB (R:PR (List St)) (f deep n:Nat) (x:XB):Prop where
 tok:TokL x.l
 g:x.g<=f
 res:R=pre x.out (Xw x.g deep x.l)
 len:x.out.length+x.l.length<=n
theorem QGw (f:Nat) (hs:∀ g,g<=f->Wkw g):Qiw (f+1):=by
 intro deep l hdeep hl hlen hok p;have hR0:QT (f+1) deep l=match QZ [123] l with|.error e=>.error e|.ok (_,r)=>if deep=12 then .error ((hd l).place,qa) else Xw f (deep+1) r:=by rw[QT];rfl
 obtain⟨t,r,rfl,ht,htk⟩:=hl.cons;refine ent Tryz.func89 fun L K hL hR hN hP=>?_;have hpL:p.1<L:=hL p (by simp[Qa.keys]);have ne1:¬ (L,0)=p:=fun e=>by rw[<- e] at hpL;exact Nat.lt_irrefl _ hpL
 have ne2:¬ p=(L,0):=fun e=>ne1 e.symm;simp[pblk,Qg];rcases hm:QZ [123] (t::r) with er|⟨u,l2⟩
 ·rw[hm] at hR0;rw[hR0] at hP;refine Qe.det (Xy (t::r) hl [123] p deep) ?_ (by simp[Qa.keys]) (by decide) rfl (fun v hv=>by rw[hm] at hv;simp[outP] at hv) (fun v hv=>?_)
  ·simp[pblk,Qg]
  rw[hm] at hv;cases hv;exact hP _ _ _ [] [] (by simp) (by simp) (by simp[Qa.keys]) (by simp[Qa.keys]) (.refl _) ⟨rfl,rfl⟩
 rw[hm] at hR0;have hl2:=Wq hl hm;refine Qe.det (Xy (t::r) hl [123] p deep) ?_ (by simp[Qa.keys]) (by decide) rfl (fun v hv=>?_) (fun v hv=>by rw[hm] at hv;simp[outP] at hv)
 ·simp[pblk,Qg]
 rw[hm] at hv;cases hv;simp[stP,hm,pblk];by_cases h12:deep=12
 ·simp only[if_pos h12] at hR0;rw[hR0] at hP;have hb:((deep:Int) == 12)=true:=by simp[h12]
  simp[hb];exact hP _ _ _ [] [] (by simp) (by simp) (by simp[Qa.keys]) (by simp[Qa.keys]) (.refl _) ⟨by rw[ht];rfl,rfl⟩
 ·simp only[if_neg h12] at hR0;have hb:((deep:Int) == 12)=false:=by simp;omega
  have w1:IntKind.i64.wrap ((deep:Int)+1)=(deep:Int)+1:=wrap_i64 (by omega) (by omega);simp[hb,w1];have hl2n:l2.length<=1000000:=by have:=hl2.2;omega
  refine Qw (WM (t:=3) (el:=56) (sz:=8) (by simp) (by decide)) ?_;refine QB (α:=XB) (JB (QT (f+1) deep (t::r)) f (deep+1) 1000000) (fun x=>[(0,.ptr p 0),(3,.vec (L,0) x.out.length)]) (fun x=>[((L,0),.vec 56 8 (x.out.map We) x.out.length true),(p,pblk x.l ((deep:Int)+1))]) (fun x=>x.g) ⟨f,[],l2⟩ ⟨hl2.1,Nat.le_refl _,by rw[hR0];simp only[pre];cases Xw f (deep+1) l2<;>rfl,by simpa using hl2n⟩ (Qb (by simp) (by simp[pblk]) (by simp[ne1])) ?_;rintro⟨g,out,lx⟩ L1 K1 ⟨htok,hgf,hres,hln⟩ hL1 - hnext hex hrt - hpn;simp only at htok hgf hres hln;have hLL:L<L1:=hL1;simp;refine Qe.det (Ub lx htok [125] p ((deep:Int)+1)) ?_ (by simp[Qa.keys]) (by decide) rfl (fun v hv=>?_) (fun v hv=>by simp[outP] at hv)
  ·simp
  cases hv;cases g with
  | zero=>
    exfalso;rw[Xw] at hres;exact hok _ hres
  | succ g=>
    rw[Xw] at hres;rcases hbr:(hd lx).isB [125]
    ·rw[if_neg (by rw[hbr];simp)] at hres;simp[stP,ne1];have hoks:okR (Xl g (deep+1) lx):=fun q hq=>hok q (by rw[hres,hq];rfl);have hst:ADet TC _ _ _ _ _:=hs g (by omega) (deep+1) lx (by omega) htok (by omega) hoks p;have e1:((deep+1:Nat):Int)=(deep:Int)+1:=by omega
     rw[e1] at hst;rcases hsr:Xl g (deep+1) lx with er|⟨sx,l4⟩
     ·rw[hsr] at hst hres;rw[hres] at hP;refine Qe.det hst ?_ (by simp[Qa.keys]) (by decide) rfl (fun v hv=>by simp[outP] at hv) (fun v hv=>?_)
      ·simp
      cases hv;refine hpn _ _ ?_;exact hP _ _ _ [] [] (by simp) (by simp) (by simp[Qa.keys]) (by simp[Qa.keys]) (.refl _) ⟨rfl,rfl⟩
     ·rw[hsr] at hst hres;have hl4:=(Yc g).2.2 _ _ _ _ htok hsr;have hl4n:=hl4.2;refine Qe.det hst ?_ (by simp[Qa.keys]) (by decide) rfl (fun v hv=>?_) (fun v hv=>by simp[outP] at hv)
      ·simp
      cases hv;have c1:out.length<=9223372036854775806:=by omega
      have c2:(out.length+1)*128<=140737488355328:=by omega
      obtain⟨sa,sb,sc,sd,se,sf,sg,sh⟩:=sx;simp[stP,ne1,ne2,We,c1,c2];refine hnext _ ⟨g,out++[.mk sa sb sc sd se sf sg sh],l4⟩ ⟨hl4.1,by simp only;omega,?_,by simp;omega⟩ (by simp) (Qb (by simp) (by simp[We]) (by simp[ne1]));rw[hres];show pre out (match Xw g (deep+1) l4 with|.error e=>.error e|.ok (ss,l)=>.ok (St.mk sa sb sc sd se sf sg sh::ss,l))=pre (out++[.mk sa sb sc sd se sf sg sh]) (Xw g (deep+1) l4);generalize Xw g (deep+1) l4=y;cases y with
      | error e=>rfl
      | ok y=>simp[pre]
    ·rw[if_pos hbr] at hres;simp[stP,ne1];refine hex _ _ ?_;have w2:IntKind.i64.wrap (deep:Int)=(deep:Int):=wrap_i64 (by omega) (by omega);simp[pblk,w2];have hend:QT (f+1) deep (t::r) = .ok (out,lx.tail):=by rw[hres];simp[pre]
     rw[hend] at hR;refine hR _ (.keep [((L,0),.vec 56 8 (out.map We) out.length true)] [(p,pblk lx.tail deep)] rfl (by simp[pblk]) (by simp) (by simp[Qa.keys]) (by simp[Qa.keys,ne2]) (v':=.slice (Qr out)) ?_ ⟨rfl,rfl⟩);rw[WG];exact .vec (t:=56) (s:=8) (es:=out.map We) (wr:=true) (by simp) (Qn _)
theorem _root_.Go.Awp.Ql.up {ex:List Nat} {f:FuncId} {args:List V} {v:V} (h:Ql TC f args v):Ql (TCe ex) f args v:=AFn.ctx (C:=TC) (C':=TCe ex) rfl rfl h
structure Y1 where
 k:Nat
 reg:Bs
 l:List Tok
structure Y2 where
 name:Bs
 ix:Bool
 xs:List Ex
 l:List Tok
structure Y3 where
 i:Nat
 es:List Ex
 l:List Tok
def preE (out:List Ex):PR (List Ex)->PR (List Ex)
 | .error e=>.error e
 | .ok (ss,l)=>.ok (out++ss,l)
structure J3 (R:PR (List Ex)) (f n:Nat) (named:Bool) (m:Nat) (x:Y3):Prop where
 tok:TokL x.l
 i:x.i<=n
 len:x.es.length=x.i
 short:x.l.length<=m
 res:R=preE x.es (wholes f (named||decide (0<x.i)) (n - x.i) x.l)
theorem wZ (t:Tok):kindOf t<17:=by
 unfold kindOf;cases h:(List.range 17).find? (fun k=>k != 0&&t.isB (Qy.getD k [])) with
 | none=>simp
 | some k=>exact List.mem_range.1 (List.mem_of_find?_eq_some h)
theorem wN (k:Int):QR k<=2:=by
 unfold QR;split
 ·omega
 ·split<;>omega
theorem firstS_lt {l l2:List Tok} {k:Nat} {reg:Bs} (h:XK l = .ok ((k,reg),l2)):k<17:=by
 unfold XK at h;split at h
 ·split at h
  ·cases h
  ·split at h
   ·cases h
   ·split at h
    ·cases h;exact wZ _
    ·cases h
 ·split at h
  ·cases h
  ·cases h;exact wZ _
theorem zB {f k:Nat} {l l2:List Tok} {n:Bs} {ix:Bool} {xs:List Ex} (h:WK f k l = .ok ((n,ix,xs),l2)):xs.length<=1:=by
 unfold WK at h;split at h
 ·split at h
  ·cases h
  ·split at h
   ·split at h
    ·cases h
    ·split at h
     ·cases h
     ·cases h;simp
   ·cases h;simp
 ·cases h;simp
def QA (k:Nat) (reg name:Bs) (ix:Bool) (e:V) (place:Int):List V:=[.int .i64 k,.str (bs reg),.str (bs name),.bool ix,e,.snil,.snil,.int .i64 place]
def st0:List V:=[.int .i64 0,.str (bs []),.str (bs []),.bool false,.snil,.snil,.snil,.int .i64 0]
theorem UX {σ:Qa} {id:Id} {xs es:List Ex} (h:Qa.get σ id=some (.vec 192 4 (xs.map Qh++es.map Qh) (xs.length+es.length) true)):Frz σ (.vec id (xs.length+es.length)) (.slice ((xs++es).map Qh)):=by
 rw[<- List.map_append] at h;exact .vec h (Qn _)
theorem or3 {a b c r:Prop} (h:a∨b∨c) (ha:a->r) (hb:b->r) (hc:c->r):r:=h.elim ha fun h=>h.elim hb hc
theorem stmt_ok (f:Nat) (hbl:Qiw f):Wkw (f+1):=by
 intro deep l hdeep hl hlen hok p;refine ADet.down (ex:=[15,22,1000018,1000040]) ?_;have hR0:Xl (f+1) deep l=match Ut f l with
  | .error e=>.error e
  | .ok ((k,reg,name,ix,xs),r)=>
    if k<15 then
     match QZ [59] r with
     | .error e=>.error e
     | .ok (_,r)=>.ok (.mk k reg name ix xs [] [] (hd l).place,r)
    else match QT f deep r with
     | .error e=>.error e
     | .ok (body,r)=>
       if k=15/\(hd r).isB YW=true then
        match QT f deep r.tail with
        | .error e=>.error e
        | .ok (els,r)=>.ok (.mk k reg name ix xs body els (hd l).place,r)
       else .ok (.mk k reg name ix xs body [] (hd l).place,r):=by rw[Xl];rfl
 obtain⟨t,r,rfl,ht,htk⟩:=hl.cons;refine ent Tryz.func135 fun L K hL hR hN hP=>?_;have hpL:p.1<L:=hL p (by simp[Qa.keys]);have ne1:¬ (L,0)=p:=fun e=>by rw[<- e] at hpL;exact Nat.lt_irrefl _ hpL
 have ne2:¬ p=(L,0):=fun e=>ne1 e.symm;have q1:¬ (L,1)=p:=fun e=>by rw[<- e] at hpL;exact Nat.lt_irrefl _ hpL
 have q2:¬ p=(L,1):=fun e=>q1 e.symm;have u1:¬ (L,2)=p:=fun e=>by rw[<- e] at hpL;exact Nat.lt_irrefl _ hpL
 have u2:¬ p=(L,2):=fun e=>u1 e.symm;have die:∀ e,Xl (f+1) deep (t::r) = .error e->∀ s',K (.panic (Zo e)) s':=fun e he s'=>by
  rw[he] at hP;exact hP _ _ _ [] [] (by simp) (by simp) (by simp[Qa.keys]) (by simp[Qa.keys]) (.refl _) ⟨rfl,rfl⟩
 clear hP;simp[pblk,Qg,ne1];refine Qe.det (ADet.up (kind_ok (t::r) hl p deep)) ?_ (by simp[Qa.keys]) (by decide) rfl (fun v hv=>?_) (fun v hv=>by simp[outP] at hv)
 ·simp[pblk,Qg]
 cases hv;simp[stP,ne1,q1,q2];refine Qw (Xf (id:=(L,1)) (o:=4) (el:=192) (sz:=4) (by simp[Qa.get,q2];exact⟨rfl,rfl⟩) rfl (by decide)) ?_;refine Yh (α:=Y1) (fun x=>XK (t::r) = .ok ((x.k,x.reg),x.l)) (fun x=>[(0,.ptr p 0),(2,.ptr (L,0) 0),(3,.ptr (L,1) 0)]) (fun x=>[((L,2),.vec 192 4 [] 0 true),((L,1),.cells 56 (QA x.k x.reg [] false (.vec (L,2) 0) t.place)),((L,0),.cells 56 st0),(p,pblk x.l deep)]) 3 ?_ ?_
 ·intro K1 hnext hex hrt hgo hpn;have herr:∀ e,XK (t::r) = .error e->∀ s',K1 (.panic (Zo e)) s':=fun e he s'=>hpn _ _ (die e (by rw[hR0,Zi,he]) _);rcases hk:((kindOf (hd (t::r)):Int) == 0)
  ·have hk0:¬ kindOf (hd (t::r))=0:=by simpa using hk
   simp[hk0,q2];refine Qe.pure (wJ _).up (by decide) ?_;have hk1:TokL r:=hl.tail (Yq hk0);rcases hg:Wh (kindOf (hd (t::r)))
   ·simp;refine hnext _ ⟨kindOf (hd (t::r)),[],r⟩ (by unfold XK;rw[if_neg hk0,hg];rfl) (Qi (by simp) (by simp) (by simp[QA,st0]) (by simp[ne1,q1,u1]))
   ·simp;refine Qe.det (ADet.up (YP r hk1 9 p deep)) ?_ (by simp[Qa.keys]) (by decide) rfl (fun v hv=>by simp[outP] at hv) (fun v hv=>?_)
    ·simp
    cases hv;exact herr _ (by unfold XK;rw[if_neg hk0,hg];rfl) _
  ·have hk0:kindOf (hd (t::r))=0:=by simpa using hk
   simp[hk0,q2];rcases hn:WI (t::r) with er|⟨nm,l1⟩
   ·refine Qe.det (ADet.up (JS (t::r) hl p deep)) ?_ (by simp[Qa.keys]) (by decide) rfl (fun v hv=>by rw[hn] at hv;simp[outP] at hv) (fun v hv=>?_)
    ·simp
    rw[hn] at hv;cases hv;exact herr _ (by unfold XK;rw[if_pos hk0,hn]) _
   have k1:=Wp hl hn;refine Qe.det (ADet.up (JS (t::r) hl p deep)) ?_ (by simp[Qa.keys]) (by decide) rfl (fun v hv=>?_) (fun v hv=>by rw[hn] at hv;simp[outP] at hv)
   ·simp
   rw[hn] at hv;cases hv;simp[stP,hn,ne1,q1,q2,u1];rcases hm:QZ [61] l1 with er|⟨u,l3⟩
   ·refine Qe.det (ADet.up (Xy l1 k1.1 [61] p deep)) ?_ (by simp[Qa.keys]) (by decide) rfl (fun v hv=>by rw[hm] at hv;simp[outP] at hv) (fun v hv=>?_)
    ·simp
    rw[hm] at hv;cases hv;exact herr _ (by unfold XK;rw[if_pos hk0,hn];simp only[hm]) _
   have k3:=Wq k1.1 hm;refine Qe.det (ADet.up (Xy l1 k1.1 [61] p deep)) ?_ (by simp[Qa.keys]) (by decide) rfl (fun v hv=>?_) (fun v hv=>by rw[hm] at hv;simp[outP] at hv)
   ·simp
   rw[hm] at hv;cases hv;simp[stP,hm,ne1,q1,u1];refine Qe.det (ADet.up (kind_ok l3 k3.1 p deep)) ?_ (by simp[Qa.keys]) (by decide) rfl (fun v hv=>?_) (fun v hv=>by simp[outP] at hv)
   ·simp
   cases hv;have k4:TokL (if kindOf (hd l3)=0 then l3 else l3.tail):=by
    split
    ·exact k3.1
    ·rename_i h;exact k3.1.tail (Yq h)
   have hfs:XK (t::r)=if Wh (kindOf (hd l3)) then .ok ((kindOf (hd l3),nm),if kindOf (hd l3)=0 then l3 else l3.tail) else .error ((hd (if kindOf (hd l3)=0 then l3 else l3.tail)).place,Jh):=by
    unfold XK;rw[if_pos hk0,hn];simp only[hm]
   generalize (if kindOf (hd l3)=0 then l3 else l3.tail)=l4 at k4 hfs ⊢;simp[stP,ne1,q1,q2,u1];refine Qe.pure (wJ _).up (by decide) ?_;rcases hg:Wh (kindOf (hd l3))
   ·rw[hg] at hfs;simp;refine Qe.det (ADet.up (YP l4 k4 9 p deep)) ?_ (by simp[Qa.keys]) (by decide) rfl (fun v hv=>by simp[outP] at hv) (fun v hv=>?_)
    ·simp
    cases hv;exact herr _ (by rw[hfs];rfl) _
   ·rw[hg] at hfs;simp;refine hnext _ ⟨kindOf (hd l3),nm,l4⟩ (by rw[hfs];rfl) (Qi (by simp) (by simp) (by simp[QA,st0]) (by simp[ne1,q1,u1]))
 ·rintro⟨k,reg,l1⟩ h1;simp only at h1 ⊢;have k1:=ZR hl h1;have hk17:=firstS_lt h1;have hl1n:l1.length<=1000000:=by have:=k1.2;omega
  simp[QA];refine Qe.pure (Vt _).up (by decide) ?_;simp;refine Yh (α:=Y2) (fun x=>WK f k l1 = .ok ((x.name,x.ix,x.xs),x.l)) (fun _=>[(0,.ptr p 0),(2,.ptr (L,0) 0),(3,.ptr (L,1) 0)]) (fun x=>[((L,2),.vec 192 4 (x.xs.map Qh) x.xs.length true),((L,1),.cells 56 (QA k reg x.name x.ix (.vec (L,2) x.xs.length) t.place)),((L,0),.cells 56 st0),(p,pblk x.l deep)]) 5 ?_ ?_
  ·intro K1 hnext hex hrt hgo hpn;have herr:∀ e,WK f k l1 = .error e->∀ s',K1 (.panic (Zo e)) s':=fun e he s'=>hpn _ _ (die e (by rw[hR0,Zi,h1];simp only[he]) _);rcases hnd:Qz k
   ·simp;exact hnext _ ⟨[],false,[],l1⟩ (by unfold WK;rw[hnd];rfl) (Qi (by simp) (by simp) (by simp[QA,st0]) (by simp[ne1,q1,u1]))
   ·simp;rcases hn:WI l1 with er|⟨nm,l2⟩
    ·refine Qe.det (ADet.up (JS l1 k1.1 p deep)) ?_ (by simp[Qa.keys]) (by decide) rfl (fun v hv=>by rw[hn] at hv;simp[outP] at hv) (fun v hv=>?_)
     ·simp
     rw[hn] at hv;cases hv;exact herr _ (by unfold WK;rw[hnd,hn];rfl) _
    have k2:=Wp k1.1 hn;refine Qe.det (ADet.up (JS l1 k1.1 p deep)) ?_ (by simp[Qa.keys]) (by decide) rfl (fun v hv=>?_) (fun v hv=>by rw[hn] at hv;simp[outP] at hv)
    ·simp
    rw[hn] at hv;cases hv;simp[stP,hn,ne1,q1,q2,u1];refine Qe.pure (yx _).up (by decide) ?_;have hs2:WK f k l1=if Xt k&&(hd l2).isB [91] then
     match Ww f l2.tail with
     | .error e=>.error e
     | .ok (x,l)=>match QZ [93] l with
       | .error e=>.error e
       | .ok (_,l)=>.ok ((nm,true,[x]),l)
     else .ok ((nm,false,[]),l2):=by unfold WK;rw[if_pos hnd,hn];try rfl
    rcases hc:Xt k
    ·rw[hc] at hs2;simp;exact hnext _ ⟨nm,false,[],l2⟩ (by rw[hs2];rfl) (Qi (by simp) (by simp) (by simp[QA,st0]) (by simp[ne1,q1,u1]))
    ·rw[hc] at hs2;simp;refine Qe.det (ADet.up (Ub l2 k2.1 [91] p deep)) ?_ (by simp[Qa.keys]) (by decide) rfl (fun v hv=>?_) (fun v hv=>by simp[outP] at hv)
     ·simp
     cases hv;rcases hb:(hd l2).isB [91]
     ·rw[hb] at hs2;simp[stP,ne1,q1,u1];exact hnext _ ⟨nm,false,[],l2⟩ (by rw[hs2];rfl) (Qi (by simp) (by simp) (by simp[QA,st0]) (by simp[ne1,q1,u1]))
     ·rw[hb] at hs2;simp[stP,ne1,q1,q2,u1];have k3:=Left.tail k2.1 (QC hb);have hl3n:l2.tail.length<=1000000:=by have:=k2.2;have:=k3.2;omega
      have hs3:WK f k l1=match Ww f l2.tail with
       | .error e=>.error e
       | .ok (x,l)=>match QZ [93] l with
         | .error e=>.error e
         | .ok (_,l)=>.ok ((nm,true,[x]),l):=by rw[hs2];rfl
      have hokw:okR (Ww f l2.tail):=fun q hq=>hok q (by rw[hR0,Zi,h1];simp only[hs3,hq]);have hcall:=ADet.up (ex:=[15,22,1000018,1000040]) (uv f l2.tail k3.1 hl3n hokw p deep);rcases hr:Ww f l2.tail with er|⟨e,l4⟩
      ·rw[hr] at hcall hs3;refine qL 3 [52] [(p,pblk l2.tail deep)] [] (Zo er) [] [] rfl rfl (by kernel_rfl) (by kernel_rfl) (by kernel_rfl) (by simp[Qa.keys]) (by simp[Qa.keys]) (by simp[Qa.keys]) ?_ ?_
       ·simp[q2];refine DetS.of rfl rfl rfl rfl rfl hcall rfl (by simp) ?_;simp[ne1,q1,u1,AOut.val,ASt.putD];intro t ht v hv id hid;simp at ht;subst ht;simp at hv;subst hv;simp[Qq] at hid;subst hid;simpa[Qa.keys] using q1
       ·exact herr _ hs3 _
      ·rw[hr] at hcall hs3;have k4:=(Xp k3.1 hr).1;have hs3:WK f k l1=match QZ [93] l4 with|.error e=>.error e|.ok (_,l)=>.ok ((nm,true,[e]),l):=hs3
       refine Zr 3 [52] [(p,pblk l2.tail deep)] [(p,pblk l4 deep)] (Qh e) rfl (by kernel_rfl) (by simp[Qa.keys]) (by simp[Qa.keys]) (by simp[Qa.keys]) ?_;simp[q2];refine DetS.of rfl rfl rfl rfl rfl hcall rfl (by simp) ?_;obtain⟨eo,en,em,ep⟩:=e;simp[ne1,q1,q2,u1,u2,AOut.val,ASt.putD,Qh];refine⟨?_,?_⟩
       ·intro t ht v hv id hid;simp at ht;subst ht;simp at hv;subst hv;simp[Qq] at hid;subst hid;simpa[Qa.keys] using q1
       ·rcases hm:QZ [93] l4 with er|⟨u,l5⟩
        ·rw[hm] at hs3;refine Qe.det (ADet.up (Xy l4 k4.1 [93] p deep)) ?_ (by simp[Qa.keys]) (by decide) rfl (fun v hv=>by rw[hm] at hv;simp[outP] at hv) (fun v hv=>?_)
         ·simp
         rw[hm] at hv;cases hv;exact herr _ hs3 _
        ·have hs4:WK f k l1 = .ok ((nm,true,[.mk eo en em ep]),l5):=by rw[hs3];simp only[hm]
         refine Qe.det (ADet.up (Xy l4 k4.1 [93] p deep)) ?_ (by simp[Qa.keys]) (by decide) rfl (fun v hv=>?_) (fun v hv=>by rw[hm] at hv;simp[outP] at hv)
         ·simp
         rw[hm] at hv;cases hv;simp[stP,hm,ne1,q1,u1];exact hnext _ ⟨nm,true,[.mk eo en em ep],l5⟩ hs4 (Qi (by simp) (by simp) (by simp[QA,st0,Qh]) (by simp[ne1,q1,u1]))
  ·rintro⟨name,ix,xs,l2⟩ h2;simp only at h2 ⊢;have k2:=Za k1.1 h2;have hxl:=zB h2;have hl2n:l2.length<=1000000:=by have:=k2.2;omega
   have ht2:=wN k;have hhead:Ut f (t::r)=match wholes f (Qz k) (QR k) l2 with
    | .error e=>.error e
    | .ok (ys,l)=>.ok (((k:Int),reg,name,ix,xs++ys),l):=by rw[Zi,h1];simp only[h2];try rfl
   simp[QA];refine Qe.pure (Takes_ok k).up (by decide) ?_;simp;refine QB (α:=Y3) (J3 (wholes f (Qz k) (QR k) l2) f (QR k) (Qz k) 1000000) (fun x=>[(0,.ptr p 0),(2,.ptr (L,0) 0),(3,.ptr (L,1) 0),(63,.int .i64 (QR k)),(64,.int .i64 x.i)]) (fun x=>[((L,2),.vec 192 4 ((xs++x.es).map Qh) (xs++x.es).length true),((L,1),.cells 56 (QA k reg name ix (.vec (L,2) (xs++x.es).length) t.place)),((L,0),.cells 56 st0),(p,pblk x.l deep)]) (fun x=>QR k - x.i) ⟨0,[],l2⟩ ⟨k2.1,Nat.zero_le _,rfl,hl2n,by simp;cases wholes f (Qz k) (QR k) l2<;>rfl⟩ (Qb (by simp) (by simp[QA,st0]) (by simp[ne1,q1,u1])) ?_;rintro⟨i,es,lx⟩ L1 K1 ⟨htok,hi,hel,hsh,hres⟩ hL1 - hnext hex hrt - hpn;simp only at htok hi hel hsh hres;have hLL:L<L1:=hL1;simp[QA];refine Qv.mk (fun hb=>?_) fun hb=>?_
   ·have hit:i<QR k:=by simpa using hb
    obtain⟨m,hm⟩:∃ m,QR k - i=m+1:=⟨QR k - i - 1,by omega⟩
    rw[hm,wholes] at hres;have herr:∀ e,wholes f (Qz k) (QR k) l2 = .error e->∀ s',K1 (.panic (Zo e)) s':=fun e he s'=>hpn _ _ (die e (by rw[hR0,hhead,he]) _);refine or3 (a:=i=0/\Qz k=false) (b:=i=0/\Qz k=true) (c:=0<i) (by rcases Nat.eq_zero_or_pos i with h|h<;>rcases Qz k<;>simp[h]) ?a ?b ?c
    case' a=>
     rintro⟨hi0,hnd⟩;have hi1:¬ 0<i:=by omega
     have hd1:decide (0<i)=false:=decide_eq_false hi1;simp[hi1];refine Qe.pure (Vt _).up (by decide) ?_;simp[hnd];obtain⟨l3,hl3⟩:∃ l3,l3=lx:=⟨_,rfl⟩
     have k3:Left 0 lx l3:=by rw[hl3];exact Left.refl htok
     have hw:wholes f (Qz k) (QR k) l2=preE es (match Ww f l3 with|.error e=>.error e|.ok (x,l)=>match wholes f true m l with|.error e=>.error e|.ok (xs,l)=>.ok (x::xs,l)):=by rw[hres,hnd,hd1,hl3];rfl
     rw[<- hl3]
    case' b=>
     rintro⟨hi0,hnd⟩;have hi1:¬ 0<i:=by omega
     have hres:wholes f (Qz k) (QR k) l2=preE es (match QZ [44] lx with|.error e=>.error e|.ok (_,l)=>match Ww f l with|.error e=>.error e|.ok (x,l)=>match wholes f true m l with|.error e=>.error e|.ok (xs,l)=>.ok (x::xs,l)):=by rw[hres,hnd];rfl
     simp[hi1];refine Qe.pure (Vt _).up (by decide) ?_;simp[hnd];rcases hmu:QZ [44] lx with er|⟨u,l3⟩
     ·rw[hmu] at hres;refine Qe.det (ADet.up (Xy lx htok [44] p deep)) ?_ (by simp[Qa.keys]) (by decide) rfl (fun v hv=>by rw[hmu] at hv;simp[outP] at hv) (fun v hv=>?_)
      ·simp
      rw[hmu] at hv;cases hv;exact herr _ hres _
     rw[hmu] at hres;have hw:wholes f (Qz k) (QR k) l2=preE es (match Ww f l3 with|.error e=>.error e|.ok (x,l)=>match wholes f true m l with|.error e=>.error e|.ok (xs,l)=>.ok (x::xs,l)):=hres;have k3:Left 0 lx l3:=(Left.refl htok).trans (Wq htok hmu) (Nat.zero_le _);refine Qe.det (ADet.up (Xy lx htok [44] p deep)) ?_ (by simp[Qa.keys]) (by decide) rfl (fun v hv=>?_) (fun v hv=>by rw[hmu] at hv;simp[outP] at hv)
     ·simp
     rw[hmu] at hv;cases hv;simp[stP,hmu,ne1,q1,u1]
    case' c=>
     intro hi0;have hd0:decide ((0:Int)<(i:Int))=true:=decide_eq_true (by omega);have hd1:decide (0<i)=true:=decide_eq_true hi0;simp[hi0];simp only[hd1,Bool.or_true,if_true] at hres;rcases hmu:QZ [44] lx with er|⟨u,l3⟩
     ·rw[hmu] at hres;refine Qe.det (ADet.up (Xy lx htok [44] p deep)) ?_ (by simp[Qa.keys]) (by decide) rfl (fun v hv=>by rw[hmu] at hv;simp[outP] at hv) (fun v hv=>?_)
      ·simp
      rw[hmu] at hv;cases hv;exact herr _ hres _
     rw[hmu] at hres;have hw:wholes f (Qz k) (QR k) l2=preE es (match Ww f l3 with|.error e=>.error e|.ok (x,l)=>match wholes f true m l with|.error e=>.error e|.ok (xs,l)=>.ok (x::xs,l)):=hres;have k3:Left 0 lx l3:=(Left.refl htok).trans (Wq htok hmu) (Nat.zero_le _);refine Qe.det (ADet.up (Xy lx htok [44] p deep)) ?_ (by simp[Qa.keys]) (by decide) rfl (fun v hv=>?_) (fun v hv=>by rw[hmu] at hv;simp[outP] at hv)
     ·simp
     rw[hmu] at hv;cases hv;simp[stP,hmu,ne1,q1,u1]
    all_goals
     have hl3n:l3.length<=1000000:=by have:=k3.2;omega
     have hokw:okR (Ww f l3):=fun q hq=>hok q (by rw[hR0,hhead,hw,hq];rfl);have hcall:=ADet.up (ex:=[15,22,1000018,1000040]) (uv f l3 k3.1 hl3n hokw p deep);rcases hr:Ww f l3 with er|⟨e,l4⟩
     ·rw[hr] at hcall hw;refine qL 3 [76] [(p,pblk l3 deep)] [] (Zo er) [] [] rfl rfl (by kernel_rfl) (by kernel_rfl) (by kernel_rfl) (by simp[Qa.keys]) (by simp[Qa.keys]) (by simp[Qa.keys]) ?_ ?_
      ·simp[q2];refine DetS.of rfl rfl rfl rfl rfl hcall rfl (by simp) ?_;simp[ne1,q1,u1,AOut.val,ASt.putD];intro t ht v hv id hid;simp at ht;subst ht;simp at hv;subst hv;simp[Qq] at hid;subst hid;simpa[Qa.keys] using q1
      ·exact herr _ hw _
     ·rw[hr] at hcall hw;have k4:=(Xp k3.1 hr).1;have hw:wholes f (Qz k) (QR k) l2=preE es (match wholes f true m l4 with|.error e=>.error e|.ok (xs,l)=>.ok (e::xs,l)):=hw;refine Zr 3 [76] [(p,pblk l3 deep)] [(p,pblk l4 deep)] (Qh e) rfl (by kernel_rfl) (by simp[Qa.keys]) (by simp[Qa.keys]) (by simp[Qa.keys]) ?_;simp[q2];refine DetS.of rfl rfl rfl rfl rfl hcall rfl (by simp) ?_;obtain⟨eo,en,em,ep⟩:=e;have c1:xs.length+es.length<=9223372036854775806:=by omega
      have c2:(xs.length+es.length+1)*72<=140737488355328:=by omega
      have w1:=wr2 i;simp[ne1,q1,q2,u1,u2,AOut.val,ASt.putD,Qh,c1,c2,w1];refine⟨?_,?_⟩
      ·intro t ht v hv id hid;simp at ht;subst ht;simp at hv;subst hv;simp[Qq] at hid;subst hid;simpa[Qa.keys] using q1
      ·refine hnext _ ⟨i+1,es++[.mk eo en em ep],l4⟩ ⟨k4.1,by simp only;omega,by simp[hel],by have:=k4.2;simp only;omega,?_⟩ (by simp only;omega) (Qb (by simp) (by simp[QA,st0,Qh,Nat.add_assoc]) (by simp[ne1,q1,u1]));have hm1:QR k - (i+1)=m:=by omega
       have hd2:decide (0<i+1)=true:=decide_eq_true (Nat.succ_pos _);rw[hw];simp only[hm1,hd2,Bool.or_true];rcases wholes f true m l4 with er|⟨ys,l5⟩
       ·rfl
       ·simp[preE]
   ·have hit:i=QR k:=by simp at hb;omega
    subst hit;rw[Nat.sub_self,wholes] at hres;have hfin:Ut f (t::r) = .ok (((k:Int),reg,name,ix,xs++es),lx):=by rw[hhead,hres];simp[preE]
    have hst:Xl (f+1) deep (t::r)=if (k:Int)<15 then
     match QZ [59] lx with
     | .error e=>.error e
     | .ok (_,r2)=>.ok (.mk k reg name ix (xs++es) [] [] t.place,r2)
     else match QT f deep lx with
      | .error e=>.error e
      | .ok (body,r2)=>
        if (k:Int)=15/\(hd r2).isB YW=true then
         match QT f deep r2.tail with
         | .error e=>.error e
         | .ok (els,r2)=>.ok (.mk k reg name ix (xs++es) body els t.place,r2)
        else .ok (.mk k reg name ix (xs++es) body [] t.place,r2):=by rw[hR0,hfin,ht]
    refine hex _ _ ?_;simp;by_cases hk15:(k:Int)<15
    ·rw[if_pos hk15] at hst;simp[hk15];rcases hmu:QZ [59] lx with er|⟨u,l3⟩
     ·rw[hmu] at hst;refine Qe.det (ADet.up (Xy lx htok [59] p deep)) ?_ (by simp[Qa.keys]) (by decide) rfl (fun v hv=>by rw[hmu] at hv;simp[outP] at hv) (fun v hv=>?_)
      ·simp
      rw[hmu] at hv;cases hv;exact die _ hst _
     ·rw[hmu] at hst;rw[hst] at hR;refine Qe.det (ADet.up (Xy lx htok [59] p deep)) ?_ (by simp[Qa.keys]) (by decide) rfl (fun v hv=>?_) (fun v hv=>by rw[hmu] at hv;simp[outP] at hv)
      ·simp
      rw[hmu] at hv;cases hv;simp[stP,hmu,ne1,ne2,q1,q2,u1,st0];refine hR _ (.keep [((L,2),.vec 192 4 ((xs++es).map Qh) (xs++es).length true)] [(p,pblk l3 deep)] (by simp[Qf,Qj,ne2];rfl) (by simp) (by simp) (by simp[Qa.keys]) (by simp[Qa.keys,u2]) (v':=We (.mk k reg name ix (xs++es) [] [] t.place)) ?_ ⟨rfl,rfl⟩);rw[We,Wj];exact .agg (.cons (.refl _) (.cons (.refl _) (.cons (.refl _) (.cons (.refl _) (.cons (UX (by simp)) (.cons .snil (.cons .snil (.cons (.refl _) .nil))))))))
    ·rw[if_neg hk15] at hst;simp[hk15];have hokb:okR (QT f deep lx):=fun q hq=>hok q (by rw[hst,hq]);have hcall:=ADet.up (ex:=[15,22,1000018,1000040]) (hbl deep lx hdeep htok (by omega) hokb p);rcases hbk:QT f deep lx with er|⟨body,l3⟩
     ·rw[hbk] at hcall hst;refine Qe.det hcall ?_ (by simp[Qa.keys]) (by decide) rfl (fun v hv=>by simp[outP] at hv) (fun v hv=>?_)
      ·simp
      cases hv;exact die _ hst _
     ·rw[hbk] at hcall hst;have k3:=(Yc f).1 _ _ _ _ htok hbk;have hl3n:l3.length<=1000000:=by have:=k3.2;omega
      refine Qe.det hcall ?_ (by simp[Qa.keys]) (by decide) rfl (fun v hv=>?_) (fun v hv=>by simp[outP] at hv)
      ·simp
      cases hv;have plain:Xl (f+1) deep (t::r) = .ok (.mk k reg name ix (xs++es) body [] t.place,l3)->∀ s',Qf TC.P s' Tryz.f135.results.toList=some [.agg [.int .i64 k,.str (bs reg),.str (bs name),.bool ix,.vec (L,2) (xs.length+es.length),.slice (Qr body),.snil,.int .i64 t.place]]->((L,2),.vec 192 4 (xs.map Qh++es.map Qh) (xs.length+es.length) true)∈s'.σ->(p,pblk l3 deep)∈s'.σ->K .ret s':=fun h s' h1 h2 h3=>by
       rw[h] at hR;refine hR _ (.keep [((L,2),.vec 192 4 ((xs++es).map Qh) (xs++es).length true)] [(p,pblk l3 deep)] h1 (by simpa using h3) (by simpa using h2) (by simp[Qa.keys]) (by simp[Qa.keys,u2]) (v':=We (.mk k reg name ix (xs++es) body [] t.place)) ?_ ⟨rfl,rfl⟩);rw[We,Wj];exact .agg (.cons (.refl _) (.cons (.refl _) (.cons (.refl _) (.cons (.refl _) (.cons (UX (by simp)) (.cons (.refl _) (.cons .snil (.cons (.refl _) .nil))))))))
      simp[stP,ne1,q1,q2,u1];by_cases hke:(k:Int)=15
      ·have hke2:((k:Int) == 15)=true:=by simp[hke]
       simp[hke2];refine Qe.det (ADet.up (Ub l3 k3.1 YW p deep)) ?_ (by simp[Qa.keys]) (by decide) rfl (fun v hv=>?_) (fun v hv=>by simp[outP] at hv)
       ·simp
       cases hv;rcases hel:(hd l3).isB YW
       ·have hst2:=hst;simp only[hel] at hst2;rw[if_neg (by simp)] at hst2;simp[stP,ne1,ne2,q1,q2,u1,st0];exact plain hst2 _ (by simp[Qf,Qj,ne2]) (by simp) (by simp)
       ·have k4:=Left.tail k3.1 (QC hel);have hl4n:l3.tail.length<=1000000:=by have:=k4.2;omega
        have hst2:Xl (f+1) deep (t::r)=match QT f deep l3.tail with
         | .error e=>.error e
         | .ok (els,r2)=>.ok (.mk k reg name ix (xs++es) body els t.place,r2):=by
         rw[hst];simp only;rw[if_pos ⟨hke,hel⟩]
        simp[stP,ne1,q1,u1];have hoke:okR (QT f deep l3.tail):=fun q hq=>hok q (by rw[hst2,hq]);have hcall2:=ADet.up (ex:=[15,22,1000018,1000040]) (hbl deep l3.tail hdeep k4.1 hl4n hoke p);rcases hbk2:QT f deep l3.tail with er|⟨els,l5⟩
        ·rw[hbk2] at hcall2 hst2;refine Qe.det hcall2 ?_ (by simp[Qa.keys]) (by decide) rfl (fun v hv=>by simp[outP] at hv) (fun v hv=>?_)
         ·simp
         cases hv;exact die _ hst2 _
        ·rw[hbk2] at hcall2 hst2;rw[hst2] at hR;refine Qe.det hcall2 ?_ (by simp[Qa.keys]) (by decide) rfl (fun v hv=>?_) (fun v hv=>by simp[outP] at hv)
         ·simp
         cases hv;simp[stP,ne1,ne2,q1,q2,u1,st0];refine hR _ (.keep [((L,2),.vec 192 4 ((xs++es).map Qh) (xs++es).length true)] [(p,pblk l5 deep)] (by simp[Qf,Qj,ne2];rfl) (by simp) (by simp) (by simp[Qa.keys]) (by simp[Qa.keys,u2]) (v':=We (.mk k reg name ix (xs++es) body els t.place)) ?_ ⟨rfl,rfl⟩);rw[We,Wj];exact .agg (.cons (.refl _) (.cons (.refl _) (.cons (.refl _) (.cons (.refl _) (.cons (UX (by simp)) (.cons (.refl _) (.cons (.refl _) (.cons (.refl _) .nil))))))))
      ·have hke2:((k:Int) == 15)=false:=by simp[hke]
       have hst2:=hst;simp only at hst2;rw[if_neg (fun h=>hke h.1)] at hst2;simp[hke2,ne2,q2,st0];exact plain hst2 _ (by simp[Qf,Qj,ne2]) (by simp) (by simp)
theorem stmt_all:∀ f,Wkw f:=by
 intro f
 induction f using Nat.strongRecOn with
 | _ f ih=>
   cases f with
   | zero=>exact fun deep l _ _ _ h=>(h _ (by rw[Xl])).elim
   | succ f=>
     refine stmt_ok f ?_;cases f with
     | zero=>exact fun deep l _ _ _ h=>(h _ (by rw[QT])).elim
     | succ f=>exact QGw f fun g hg=>ih g (by omega)
theorem block_all (f:Nat):Qiw f:=by
 cases f with
 | zero=>exact fun deep l _ _ _ h=>(h _ (by rw[QT])).elim
 | succ f=>exact QGw f fun g _=>stmt_all g
end Go.Awp.R1
