/- Code: what a program's text makes is not too big. -/
import Derived.Test.YtnielafbkgpgjaaGreatDoorX27
set_option linter.all false
set_option maxRecDepth 100000
set_option maxHeartbeats 8000000
namespace Go.Awp.R1
open Go Go.Awp Go.Proofs Go.Awp.Sp
mutual
def cntS:St->Nat
 | .mk _ _ _ _ _ body els _=>1+cntL body+cntL els
def cntL:List St->Nat
 | []=>0
 | s::r=>cntS s+cntL r
end
mutual
theorem insS_len (ts:Qp) (regs:List Bs):∀ (s:St) (p:Nat),(insS ts regs p s).length<=2*cntS s
 | .mk k reg name ix xs body els pl,p=>by
   by_cases h:k<15
   ·rw[insS,if_pos h,cntS];simp;omega
   ·rw[yS h,cntS];have h1:=qZ ts regs body (p+1);have h2:=fun q=>qZ ts regs els q;simp only;split
    ·simp;omega
    ·split
     ·simp;omega
     ·have:=h2 (p+1+(insL ts regs (p+1) body).length+1);simp;omega
theorem qZ (ts:Qp) (regs:List Bs):∀ (l:List St) (p:Nat),(insL ts regs p l).length<=2*cntL l
 | [],p=>by rw[insL];simp
 | s::r,p=>by
   rw[insL,cntL];have h1:=insS_len ts regs s p;have h2:=qZ ts regs r (p+(insS ts regs p s).length);simp only[List.length_append];omega
end
theorem st_cnt:∀ f,(∀ d l b l2,TokL l->QT f d l = .ok (b,l2)->cntL b+l2.length<=l.length)/\(∀ d l b l2,TokL l->Xw f d l = .ok (b,l2)->cntL b+l2.length<=l.length)/\(∀ d l s l2,TokL l->Xl f d l = .ok (s,l2)->cntS s+l2.length<=l.length)
 | 0=>⟨fun d l b l2 _ h=>(by rw[QT] at h;cases h),fun d l b l2 _ h=>(by rw[Xw] at h;cases h),fun d l b l2 _ h=>(by rw[Xl] at h;cases h)⟩
 | f+1=>by
   obtain⟨ihb,ihr,ihs⟩:=st_cnt f;refine⟨fun d l b l2 hl h=>?_,fun d l b l2 hl h=>?_,fun d l s l2 hl h=>?_⟩
   ·rw[QT] at h;split at h
    ·cases h
    ·rename_i u l1 h1;have k1:=Wq hl h1;split at h
     ·cases h
     ·have:=ihr _ _ _ _ k1.1 h;have:=k1.2;omega
   ·rw[Xw] at h;split at h
    ·rename_i hb;cases h;have k1:=Left.tail hl (QC hb);have:=k1.2;rw[cntL];omega
    ·split at h
     ·cases h
     ·rename_i s l1 h1;have k1:=(Yc f).2.2 _ _ _ _ hl h1;have i1:=ihs _ _ _ _ hl h1;split at h
      ·cases h
      ·rename_i ss l3 h3;cases h;have i3:=ihr _ _ _ _ k1.1 h3;rw[cntL];omega
   ·rw[Xl] at h;split at h
    ·cases h
    ·rename_i k reg name ix xs r h1;have k1:=ZC hl h1;have k1':=k1.2;split at h
     ·split at h
      ·cases h
      ·rename_i u l3 h3;cases h;have:=(Wq k1.1 h3).2;rw[cntS,cntL];omega
     ·split at h
      ·cases h
      ·rename_i body l3 h3;have k3:=(Yc f).1 _ _ _ _ k1.1 h3;have i3:=ihb _ _ _ _ k1.1 h3;split at h
       ·rename_i hb;have k4:=Left.tail k3.1 (QC hb.2);have k4':=k4.2;split at h
        ·cases h
        ·rename_i els l5 h5;cases h;have i5:=ihb _ _ _ _ k4.1 h5;rw[cntS];omega
       ·cases h;rw[cntS,cntL];omega
theorem declD_cnt {f:Nat} {l l2:List Tok} {d:Dc} (hl:TokL l) (h:XU f l = .ok (d,l2)):cntL d.body<=l.length:=by
 unfold XU at h;simp only at h;split at h
 ·cases h
 ·rename_i hs;have k0:=Left.tail hl (Vi hs);split at h
  ·cases h
  ·rename_i name r h1;have k1:Left 0 l.tail r:=by
    split at h1
    ·cases h1;exact .refl k0.1
    ·exact (Wp k0.1 h1).trans (.refl (Wp k0.1 h1).1) (by omega)
   split at h
   ·split at h
    ·cases h
    ·rename_i b r2 h2;cases h;have:=(st_cnt f).1 _ _ _ _ k1.1 h2;have:=k0.2;have:=k1.2;show cntL b<=l.length;omega
   ·split at h
    ·cases h
    ·split at h
     ·cases h
     ·cases h;show cntL []<=_;rw[cntL];omega
theorem vr:∀ (f:Nat) (l:List Tok) (ds:List Dc),TokL l->Xj f l = .ok ds->∀ d∈ds,cntL d.body<=l.length
 | 0,l,ds,_,h=>by rw[Xj] at h;cases h
 | f+1,l,ds,hl,h=>by
   rw[Xj] at h;split at h
   ·cases h;intro d hd;cases hd
   ·split at h
    ·cases h
    ·rename_i d r h1;obtain⟨k1,s1⟩:=ZG hl h1;have o1:=declD_cnt hl h1;split at h
     ·cases h
     ·rename_i ds' h2;cases h;have ih:=vr f r ds' k1.1 h2;intro x hx;rcases List.mem_cons.1 hx with rfl|hx
      ·exact o1
      ·have:=ih x hx;have:=k1.2;omega
theorem QWq {s:Bs} {ds:List Dc} (h:YI s = .ok ds):∀ d∈ds,cntL d.body<=s.length+1:=by
 unfold YI at h;split at h
 ·cases h
 ·rename_i l h1;have hx:=qW h1;have hlen:=hx.len;intro d hd;have:=vr _ _ _ hx.tok h d hd;omega
theorem Jm {ds0:List Dc} (g:Int->Bool):∀ (ds:List Dc) (a:Int × Qp),PlOk a.2 ds0->PlOk (Zc g a ds).2 ds0
 | [],a,h=>by rw[Zc];exact h
 | d::r,(n,ts),h=>by
   rw[Zc];split
   ·exact Jm g r _ (h.rebase _ _)
   ·exact Jm g r _ h
theorem Qqw {ts:Qp} {ds:List Dc} (h:PlOk ts ds):PlOk (Xq ts ds).2.1 ds:=by
 unfold Xq;exact Jm _ _ _ (Jm _ _ _ (Jm _ _ _ (Jm _ _ _ h)))
theorem UF {ts:Qp}:∀ {ds:List Dc} {l:List (List Bs)},WT ts ds = .ok l->l.length=(ds.filter fun d=>d.sort == 5).length/\∀ r∈l,r.length<=8
 | [],l,h=>by rw[WT] at h;cases h;simp
 | d::r,l,h=>by
   rw[WT] at h;split at h
   ·rename_i h5;split at h
    ·cases h
    ·rename_i regs h1;have hl:=Zw _ h1 (by simp);split at h
     ·cases h
     ·rename_i l' h2;cases h;obtain⟨i1,i2⟩:=UF h2;refine⟨by simp[h5,i1],fun x hx=>?_⟩;rcases List.mem_cons.1 hx with rfl|hx
      ·exact hl
      ·exact i2 x hx
   ·rename_i h5;obtain⟨i1,i2⟩:=UF h;exact⟨by simp[h5,i1],i2⟩
theorem zS {ds0:List Dc}:∀ (ds:List Dc) (seen:List Dc) (t t':Decls),TOk t seen->Xr t ds = .ok t'->TOk t' (seen++ds)
 | [],seen,t,t',ht,h=>by rw[Xr] at h;cases h;simpa using ht
 | d::r,seen,t,t',ht,h=>by
   rw[Xr] at h;split at h
   ·cases h
   ·rename_i t1 h1;cases hB:Wo t d with
    | error e=>rw[(UA hB).1] at h1;cases h1
    | ok t2=>
      have h2:=(Uz hB).2.2.2.1;rw[h1] at h2;cases h2;have:=zS (ds0:=ds0) r (seen++[d]) _ t' (ht.step hB _) h;simpa using this
structure MkOk (t:Sp.Table) (ds:List Dc):Prop where
 len:ds.length<=1000000
 num:∀ d∈ds,Xg d.num
 body:∀ d∈ds,∃ n,okB n d.body
 cnt:∀ d∈ds,cntL d.body<=500000
 lens:∀ s,0<=lenOf t.things s/\lenOf t.things s<=8
 regs:(ds.filter fun d=>d.sort == 5).length<=t.regs.length
 reg8:∀ r∈t.regs,r.length<=8
theorem read_mk {s:Bs} {ds:List Dc} {t:Sp.Table} (hs:s.length<=400000) (hp:YI s = .ok ds) (hc:Ya ds = .ok t):MkOk t ds:=by
 have hd:=wS (by omega) hp;have hcn:=QWq hp;unfold Ya at hc;split at hc
 ·cases hc
 ·rename_i t0 h0;have ht:=zS (ds0:=ds) ds [] _ _ ⟨by simp,by simp,by simp,⟨by simp[QJq],by simp,by simp⟩⟩ h0;split at hc
  ·cases hc
  ·simp only at hc;split at hc
   ·cases hc
   ·rename_i regs h1;cases hc;have hpl:=Qqw ht.pl;obtain⟨b1,b2⟩:=UF h1;refine⟨hd.len,hd.num,hd.body,fun d hm=>?_,fun w=>?_,by rw[b1];exact Nat.le_refl _,b2⟩
    ·have:=hcn d hm;omega
    ·show 0<=lenOf (Xq t0.things ds).2.1 w/\lenOf (Xq t0.things ds).2.1 w<=8;unfold lenOf;cases hl:(Xq t0.things ds).2.1.lookup w with
     | none=>simp
     | some x=>simpa using hpl.len _ _ hl
def Wc {α:Type} (r:PR α) (pos:Int) (m:Option (α × QS)):Prop:=match r with
 | .ok (a,l2)=>m=some (a,⟨l2,pos,0⟩)
 | .error e=>e.2 = -1∨(e.2≠0/\∃ a l',TokL l'/\m=some (a,⟨l',e.1,e.2⟩))
theorem Zu {w:Bs} {l:List Tok} {pos:Int}:QF w ⟨l,pos,0⟩=((hd l).isB w,if (hd l).isB w=true then ⟨l.tail,pos,0⟩ else ⟨l,pos,0⟩):=by
 unfold QF;rcases h:(hd l).isB w
 ·rw[if_neg (by simp),if_neg (by simp)]
 ·rw[if_pos ⟨rfl,rfl⟩,if_pos rfl]<;>rfl
theorem Yn {w:Bs} {l:List Tok} {pos:Int}:WC w ⟨l,pos,0⟩=match QZ w l with|.ok (_,l2)=>⟨l2,pos,0⟩|.error e=>⟨l,e.1,e.2⟩:=by
 unfold WC QZ;rw[Zu];rcases h:(hd l).isB w
 ·simp[QS.wrong,WE]
 ·simp
theorem VO {l:List Tok} {pos:Int}:WU ⟨l,pos,0⟩=match WI l with|.ok (n,l2)=>(n,⟨l2,pos,0⟩)|.error e=>([],⟨l,e.1,e.2⟩):=by
 unfold WU WI;by_cases h:(hd l).kind=1/\Wl (hd l).text=false
 ·rw[if_pos h,if_pos h,if_pos rfl]<;>rfl
 ·rw[if_neg h,if_neg h]<;>rfl
theorem Yo {w:Bs} {l:List Tok} {e:Er} (h:QZ w l = .error e):e.2=1:=by
 unfold QZ at h;split at h
 ·cases h
 ·cases h;rfl
theorem VP {l:List Tok} {e:Er} (h:WI l = .error e):e.2=1:=by
 unfold WI at h;split at h
 ·cases h
 ·cases h;rfl
theorem vb {l:List Tok} {pos:Int}:Xe ⟨l,pos,0⟩=(kindOf (hd l),if kindOf (hd l)=0 then ⟨l,pos,0⟩ else ⟨l.tail,pos,0⟩):=by
 unfold Xe;by_cases h:kindOf (hd l)=0
 ·rw[if_neg (fun x=>x.2 h),if_pos h,h]
 ·rw[if_pos ⟨rfl,h⟩,if_neg h]<;>rfl
theorem letter_op {c:UInt8} {r:Bs} {k:Nat} {w:Bs} (h:w∈QE k) (hw:w=c::r) (hc:QX c=true):False:=by
 unfold QE at h;split at h<;>simp at h
 ·rcases h with rfl|rfl|rfl<;>cases hw<;>revert hc<;>decide
 ·rcases h with rfl|rfl<;>cases hw<;>revert hc<;>decide
 ·subst h;cases hw;revert hc;decide
theorem anyOf_op {l:List Tok} {k:Nat} (h:QL l):Zp (hd l) (QE k)=if (hd l).kind=3/\(QE k).contains (hd l).text=true then some (hd l).text else none:=by
 unfold Zp;have hw:=h.word _ h.hd_mem;generalize hd l=t at hw;by_cases hk:t.kind=3
 ·have e:∀ w,t.isB w=(t.text == w):=fun w=>by simp[Tok.isB,hk]
  have e2:(QE k).find? t.isB=(QE k).find? (fun w=>t.text == w):=by congr 1;funext w;exact e w
  rw[e2];generalize QE k=ws
  induction ws with
  | nil=>simp
  | cons w ws ih=>
    rcases hx:(t.text == w)
    ·rw[List.find?_cons_of_neg (by simp[hx]),ih];have hne:t.text≠w:=by simpa using hx
     simp[hne]
    ·rw[List.find?_cons_of_pos hx];have:t.text=w:=by simpa using hx
     simp[hk,this]
 ·rw[if_neg fun x=>hk x.1,List.find?_eq_none];intro w hm hb;simp only[Tok.isB,Bool.and_eq_true,Bool.or_eq_true,beq_iff_eq] at hb;obtain⟨c,r,hc,hl⟩:=hw (hb.1.resolve_right hk);exact letter_op hm (by rw[<- hb.2,hc]) hl
theorem zf:∀ f,(∀ k l pos,k<=3->QL l->Wc (exE f k l) pos (exM (f+4) k ⟨l,pos,0⟩))/\(∀ k e l pos,k<=2->QL l->Wc (chE f k e l) pos (chM (f+4) k e ⟨l,pos,0⟩))
 | 0=>⟨fun k l pos _ _=>by rw[exE];exact .inl rfl,fun k e l pos _ _=>by rw[chE];exact .inl rfl⟩
 | f+1=>by
   obtain⟨ih1,ih2⟩:=zf f;have e5:f+1+4=(f+4)+1:=by omega
   refine⟨fun k l pos hk hl=>?_,fun k e l pos hk hl=>?_⟩
   ·rw[exE,e5,exM];by_cases h3:k<3
    ·rw[if_pos h3,if_pos h3];have h1:=ih1 (k+1) l pos (by omega) hl;rcases hr:exE f (k+1) l with er|⟨e,l1⟩
     ·rw[hr] at h1;rcases h1 with h1|⟨h1,a,l',ht,hm⟩
      ·exact .inl h1
      ·refine .inr ⟨h1,a,l',ht,?_⟩;rw[hm];exact wB (f:=f+3) h1
     ·rw[hr] at h1;have h1:exM (f+4) (k+1) ⟨l,pos,0⟩=some (e,⟨l1,pos,0⟩):=h1;rw[h1];exact ih2 k e l1 pos (by omega) (hl.sub ((ZF f).1 _ _ _ _ hl.tok hr) ((Qbz f).1 _ _ _ _ hr))
    ·have hk3:k=3:=by omega
     subst hk3;rw[if_neg h3,if_neg h3,if_pos rfl];show Wc (match Yk (hd l) with|some op=>_|none=>_) pos (match Yk (hd l) with|some op=>_|none=>_);rcases hs:Yk (hd l) with _|op
     ·simp only;by_cases h2:(hd l).kind=2
      ·rw[if_pos h2,if_pos h2]<;>rfl
      ·rw[if_neg h2,if_neg h2];by_cases h4:(hd l).isB [40]=true
       ·rw[if_pos h4,if_pos h4];have hlt:=hl.tail (QC h4);have h1:=ih1 0 l.tail pos (by omega) hlt;rcases hr:exE f 0 l.tail with er|⟨e,l1⟩
        ·rw[hr] at h1;rcases h1 with h1|⟨h1,a,l',ht,hm⟩
         ·exact .inl h1
         ·refine .inr ⟨h1,a,l',ht,?_⟩;show (match exM (f+4) 0 ⟨l.tail,pos,0⟩ with|none=>none|some (e,s)=>some (e,WC [41] s))=_;rw[hm];simp only;rw[YB h1]
        ·rw[hr] at h1;have h1:exM (f+4) 0 ⟨l.tail,pos,0⟩=some (e,⟨l1,pos,0⟩):=h1;show Wc _ pos (match exM (f+4) 0 ⟨l.tail,pos,0⟩ with|none=>none|some (e,s)=>some (e,WC [41] s));rw[h1];simp only[Yn];have hl1:=(ZF f).1 _ _ _ _ hlt.tok hr;rcases hm:QZ [41] l1 with er|⟨u,l2⟩
         ·have:=Yo hm;exact .inr ⟨by omega,e,l1,hl1,rfl⟩
         ·rfl
       ·rw[if_neg h4,if_neg h4];show Wc _ pos (some (Ex.mk wReg zero (WU ⟨l,pos,0⟩).1 [],(WU ⟨l,pos,0⟩).2));rw[VO];rcases hm:WI l with er|⟨u,l2⟩
        ·have:=VP hm;exact .inr ⟨by omega,_,l,hl.tok,rfl⟩
        ·rfl
     ·simp only;have hlt:=hl.tail (ZM hs);have h1:=ih1 3 l.tail pos (by omega) hlt;rcases hr:exE f 3 l.tail with er|⟨e,l1⟩
      ·rw[hr] at h1;rcases h1 with h1|⟨h1,a,l',ht,hm⟩
       ·exact .inl h1
       ·refine .inr ⟨h1,Ex.mk op zero [] [a],l',ht,?_⟩;show (match exM (f+4) 3 ⟨l.tail,pos,0⟩ with|none=>none|some (e,s)=>some (Ex.mk op zero [] [e],s))=_;rw[hm]
      ·rw[hr] at h1;have h1:exM (f+4) 3 ⟨l.tail,pos,0⟩=some (e,⟨l1,pos,0⟩):=h1;show Wc _ pos (match exM (f+4) 3 ⟨l.tail,pos,0⟩ with|none=>none|some (e,s)=>some (Ex.mk op zero [] [e],s));rw[h1]<;>rfl
   ·rw[chE,e5,chM];show Wc (match Zp (hd l) (QE k) with|none=>_|some op=>_) pos _;by_cases h0:k=0
    ·subst h0;rw[if_pos rfl,if_pos rfl];show Wc _ pos (match Zp (hd l) (QE 0) with|none=>_|some op=>_);rcases ha:Zp (hd l) (QE 0) with _|op
     ·rfl
     ·simp only;have hlt:=hl.tail (YR ha);have h1:=ih1 1 l.tail pos (by omega) hlt;rcases hr:exE f 1 l.tail with er|⟨e2,l1⟩
      ·rw[hr] at h1;rcases h1 with h1|⟨h1,a,l',ht,hm⟩
       ·exact .inl h1
       ·refine .inr ⟨h1,Ex.mk op zero [] [e,a],l',ht,?_⟩;show (match exM (f+4) 1 ⟨l.tail,pos,0⟩ with|none=>none|some (e2,s)=>some (Ex.mk op zero [] [e,e2],s))=_;rw[hm]
      ·rw[hr] at h1;have h1:exM (f+4) 1 ⟨l.tail,pos,0⟩=some (e2,⟨l1,pos,0⟩):=h1;show Wc _ pos (match exM (f+4) 1 ⟨l.tail,pos,0⟩ with|none=>none|some (e2,s)=>some (Ex.mk op zero [] [e,e2],s));rw[h1]<;>rfl
    ·rw[if_neg h0];have ha:=anyOf_op (k:=k) hl;by_cases hc:(hd l).kind=3/\(QE k).contains (hd l).text=true
     ·rw[if_pos hc] at ha;rw[ha,if_pos ⟨rfl,hc⟩];simp only;have hlt:=hl.tail (YR ha);have h1:=ih1 (k+1) l.tail pos (by omega) hlt;rcases hr:exE f (k+1) l.tail with er|⟨e2,l1⟩
      ·rw[hr] at h1;rcases h1 with h1|⟨h1,a,l',ht,hm⟩
       ·exact .inl h1
       ·refine .inr ⟨h1,.mk (hd l).text zero [] [e,a],l',ht,?_⟩;show (match exM (f+4) (k+1) ⟨l.tail,pos,0⟩ with|none=>none|some (e2,s2)=>chM (f+4) k (.mk (hd l).text zero [] [e,e2]) s2)=_;rw[hm];exact wB (f:=f+3) h1
      ·rw[hr] at h1;have h1:exM (f+4) (k+1) ⟨l.tail,pos,0⟩=some (e2,⟨l1,pos,0⟩):=h1;show Wc _ pos (match exM (f+4) (k+1) ⟨l.tail,pos,0⟩ with|none=>none|some (e2,s2)=>chM (f+4) k (.mk (hd l).text zero [] [e,e2]) s2);rw[h1];simp only[if_neg h0];exact ih2 k _ l1 pos hk (hlt.sub ((ZF f).1 _ _ _ _ hlt.tok hr) ((Qbz f).1 _ _ _ _ hr))
     ·rw[if_neg hc] at ha;rw[ha,if_neg fun x=>hc x.2]<;>rfl
theorem wh {f:Nat} {l:List Tok} {pos:Int} (hl:QL l):Wc (Ww f l) pos (XJ (f+4) ⟨l,pos,0⟩):=by
 unfold Ww XJ;have h1:=(zf f).1 0 l pos (by omega) hl;rcases hr:exE f 0 l with er|⟨e,l1⟩
 ·rw[hr] at h1;rcases h1 with h1|⟨h1,a,l',ht,hm⟩
  ·exact .inl h1
  ·refine .inr ⟨h1,a,l',ht,?_⟩;rw[hm];simp only;rw[if_neg fun x=>h1 x.1]
 ·rw[hr] at h1;have h1:exM (f+4) 0 ⟨l,pos,0⟩=some (e,⟨l1,pos,0⟩):=h1;rw[h1];simp only;by_cases hd:12<WA e
  ·rw[if_pos hd,if_pos ⟨trivial,hd⟩];exact .inr ⟨by simp[qa],e,l1,(ZF f).1 _ _ _ _ hl.tok hr,rfl⟩
  ·rw[if_neg hd,if_neg fun x=>hd x.2]<;>rfl
theorem qn {f:Nat}:∀ (n:Nat) (c:Bool) (l:List Tok) (pos:Int),QL l->Wc (wholes f c n l) pos (Xk (f+4) c n ⟨l,pos,0⟩)
 | 0,c,l,pos,hl=>by rw[wholes,Xk]<;>rfl
 | n+1,c,l,pos,hl=>by
   rw[wholes,Xk];have key:∀ l1,QL l1->Wc (match Ww f l1 with|.error e=>.error e|.ok (x,l)=>match wholes f true n l with|.error e=>.error e|.ok (xs,l)=>.ok (x::xs,l)) pos
    (match XJ (f+4) ⟨l1,pos,0⟩ with|none=>none|some (x,s)=>match Xk (f+4) true n s with|none=>none|some (xs,s)=>some (x::xs,s)):=fun l1 hl1=>by
    have h1:=wh (f:=f) (pos:=pos) hl1;rcases hr:Ww f l1 with er|⟨x,l2⟩
    ·rw[hr] at h1;rcases h1 with h1|⟨h1,a,l',ht,hm⟩
     ·exact .inl h1
     ·obtain⟨xs,hx⟩:=ZK (f:=f) (s:=⟨l',er.1,er.2⟩) h1 n true;refine .inr ⟨h1,a::xs,l',ht,?_⟩;rw[hm];simp only;rw[hx]
    ·rw[hr] at h1;have h1:XJ (f+4) ⟨l1,pos,0⟩=some (x,⟨l2,pos,0⟩):=h1;rw[h1];simp only;have h2:=qn (f:=f) n true l2 pos (hl1.sub (Xp hl1.tok hr).1.1 (Vw hr));rcases hr2:wholes f true n l2 with er|⟨xs,l3⟩
     ·rw[hr2] at h2;rcases h2 with h2|⟨h2,a,l',ht,hm⟩
      ·exact .inl h2
      ·refine .inr ⟨h2,x::a,l',ht,?_⟩;rw[hm]
     ·rw[hr2] at h2;have h2:Xk (f+4) true n ⟨l2,pos,0⟩=some (xs,⟨l3,pos,0⟩):=h2;rw[h2]<;>rfl
   cases c with
   | false=>exact key l hl
   | true=>
     show Wc (match QZ [44] l with|.error e=>_|.ok (_,l)=>_) pos (match XJ (f+4) (WC [44] ⟨l,pos,0⟩) with|none=>none|some (x,s)=>_);rw[Yn];rcases hm:QZ [44] l with er|⟨u,l1⟩
     ·have hc:=Yo hm;have hne:er.2≠0:=by omega
      simp only;rw[ju (s:=⟨l,er.1,er.2⟩) hne];obtain⟨xs,hx⟩:=ZK (f:=f) (s:=⟨l,er.1,er.2⟩) hne n true;simp only;rw[hx];exact .inr ⟨hne,_,l,hl.tok,rfl⟩
     ·exact key l1 (hl.sub (Jp hl.tok hm) (XX hm))
def fieldV (P:Program) (s:TypeId) (f:Nat):V->Option V
 | .agg cs=>(fldT P s f).bind fun p=>Xh P p.2 cs p.1
 | _=>none
@[simp] theorem fieldV_agg {P:Program} {s:TypeId} {f:Nat} {cs:List V}:fieldV P s f (.agg cs)=(fldT P s f).bind fun p=>Xh P p.2 cs p.1:=rfl
@[simp] theorem pureOp_field {P:Program} {lk:Operand->Option V} {s:TypeId} {x:Operand} {f:Nat}:QY P lk (.field s x f)=(lk x).bind (fieldV P s f):=by
 unfold QY;show (lk x).bind _=_;congr 1
def qblk (s:QS):Blk:=.cells 118 [.slice (s.l.map Qg),.int .i64 s.pos,.int .i64 s.code]
def AQ (f:FuncId) (args:List V) (s:QS) (v:V) (s':QS):Prop:=∀ p:Id,ADet TC f (.ptr p 0::args) [(p,qblk s)] (.ret v) [(p,qblk s')]
structure QOk (s:QS):Prop where
 tok:TokL s.l
 num:NumL s.l
 word:WordL s.l
theorem QOk.ql {s:QS} (h:QOk s):QL s.l:=⟨h.tok,h.word⟩
theorem QOk.wrong {s:QS} (h:QOk s) (a b:Int):QOk (s.wrong a b):=by unfold QS.wrong;split<;>exact⟨h.tok,h.num,h.word⟩
theorem QOk.next {s:QS} (h:QOk s) (h0:(hd s.l).kind≠0):QOk s.next:=⟨h.tok.tail h0,h.num.tail,fun t ht=>h.word t (List.mem_of_mem_tail ht)⟩
theorem QOk.take {s:QS} (h:QOk s) (w:Bs):QOk (QF w s).2:=by
 unfold QF;split
 ·rename_i hc;exact h.next (QC hc.2)
 ·exact h
theorem QOk.need {s:QS} (h:QOk s) (w:Bs):QOk (WC w s):=by
 unfold WC;split
 ·exact h.take w
 ·exact (h.take w).wrong _ _
theorem QOk.name {s:QS} (h:QOk s):QOk (WU s).2:=by
 unfold WU;split
 ·rename_i hc;split
  ·exact h.next (by rw[hc.1];decide)
  ·exact h
 ·exact h.wrong _ _
theorem QOk.figure {s:QS} (h:QOk s):QOk (Wi s).2/\qS (Wi s).1:=by
 have z0:qS zero:=by unfold qS zero;simp -implicitDefEqProofs
 unfold Wi;split
 ·rename_i hc;split
  ·exact⟨h.next (by rw[hc];decide),h.num _ h.ql.hd_mem⟩
  ·exact⟨h,z0⟩
 ·exact⟨h.wrong _ _,z0⟩
theorem QOk.kind {s:QS} (h:QOk s):QOk (Xe s).2:=by
 unfold Xe;split
 ·rename_i hc;exact h.next (Yq hc.2)
 ·exact h
theorem Zf (s:QS) (hl:TokL s.l):AQ 44 [] s (Qg (hd s.l)) s:=by
 intro p;obtain⟨l,pos,code⟩:=s;obtain⟨t,r,rfl,ht,_⟩:=TokL.cons hl;refine ent Tryz.func44 fun L K hL hR hN hP=>?_;have hpL:p.1<L:=hL p (by simp -implicitDefEqProofs [Qa.keys]);have ne1:¬ (L,0)=p:=fun e=>by rw[<- e] at hpL;exact Nat.lt_irrefl _ hpL
 have ne2:¬ p=(L,0):=fun e=>ne1 e.symm;simp -implicitDefEqProofs [qblk,Qg,ne1];exact hR _ (.keep [] [(p,qblk ⟨t::r,pos,code⟩)] (by simp -implicitDefEqProofs [Qf,Qj];rfl) (by simp -implicitDefEqProofs [qblk,Qg]) (by simp -implicitDefEqProofs) (by simp -implicitDefEqProofs [Qa.keys]) (by simp -implicitDefEqProofs [Qa.keys]) (.refl _) ⟨by simp -implicitDefEqProofs [ht,Qg],rfl⟩)
theorem ZH (s:QS) (a e:Int):AQ 46 [.int .i64 a,.int .i64 e] s (.tup []) (s.wrong a e):=by
 intro p;obtain⟨l,pos,code⟩:=s;refine ent Tryz.func46 fun L K hL hR hN hP=>?_;by_cases hc:code=0
 ·subst hc;simp -implicitDefEqProofs [qblk];exact hN _ (.keeps (vs:=[]) [] [(p,qblk ⟨l,a,e⟩)] rfl (by simp -implicitDefEqProofs) (by simp -implicitDefEqProofs [qblk]) (by simp -implicitDefEqProofs) (by simp -implicitDefEqProofs [Qa.keys]) (by simp -implicitDefEqProofs [Qa.keys]) (.refl _) ⟨rfl,by simp -implicitDefEqProofs [QS.wrong]⟩)
 ·have hb:(code == 0)=false:=by simp -implicitDefEqProofs [hc]
  simp -implicitDefEqProofs [qblk,hb];exact hN _ (.keeps (vs:=[]) [] [(p,qblk ⟨l,pos,code⟩)] rfl (by simp -implicitDefEqProofs) (by simp -implicitDefEqProofs [qblk]) (by simp -implicitDefEqProofs) (by simp -implicitDefEqProofs [Qa.keys]) (by simp -implicitDefEqProofs [Qa.keys]) (.refl _) ⟨rfl,by simp -implicitDefEqProofs [QS.wrong,hc]⟩)
theorem Zt (s:QS) (hl:TokL s.l) (w:Bs):AQ 45 [encS w] s (.bool (QF w s).1) (QF w s).2:=by
 intro p;have hnx:=Zf s hl p;obtain⟨l,pos,code⟩:=s;obtain⟨t,r,rfl,ht,hk⟩:=TokL.cons hl;have htk:(r.map Qg).take r.length=r.map Qg:=List.take_of_length_le (by simp -implicitDefEqProofs);refine ent Tryz.func45 fun L K hL hR hN hP=>?_;have hpL:p.1<L:=hL p (by simp -implicitDefEqProofs [Qa.keys]);have ne1:¬ (L,0)=p:=fun e=>by rw[<- e] at hpL;exact Nat.lt_irrefl _ hpL
 have ne2:¬ p=(L,0):=fun e=>ne1 e.symm;have no:(¬ (code=0/\(hd (t::r)).isB w=true))->∀ s',Qf TC.P s' [.tmp 4]=some [.bool false]->(p,qblk ⟨t::r,pos,code⟩)∈s'.σ->K .ret s':=fun h1 s' h2 h3=>
  hR s' (.keep [] [(p,qblk ⟨t::r,pos,code⟩)] h2 (by simpa using h3) (by simp -implicitDefEqProofs) (by simp -implicitDefEqProofs [Qa.keys]) (by simp -implicitDefEqProofs [Qa.keys]) (.refl _) ⟨by unfold QF;rw[if_neg h1],by unfold QF;rw[if_neg h1]⟩)
 simp -implicitDefEqProofs;refine Qe.det hnx ?_ (by simp -implicitDefEqProofs [Qa.keys]) (by decide) rfl (fun v hv=>?_) (fun v hv=>by cases hv)
 ·simp -implicitDefEqProofs
 cases hv;simp -implicitDefEqProofs [qblk,Qg,ht,ne1];by_cases hc:code=0
 ·have hcb:(code != 0)=false:=by simp -implicitDefEqProofs [hc]
  simp -implicitDefEqProofs [hcb];rcases htx:(t.text != w)
  ·have htw:t.text=w:=by simpa using htx
   subst htw;simp -implicitDefEqProofs;rcases hk1:(t.kind != 1)
   ·have h1:t.kind=1:=by simpa using hk1
    simp -implicitDefEqProofs [Qg,htk,ne1];have yes:code=0/\(hd (t::r)).isB t.text=true:=⟨hc,by rw[ht];simp -implicitDefEqProofs [Tok.isB,h1]⟩
    exact hR _ (.keep [] [(p,qblk ⟨r,pos,code⟩)] rfl (by simp -implicitDefEqProofs [qblk]) (by simp -implicitDefEqProofs) (by simp -implicitDefEqProofs [Qa.keys]) (by simp -implicitDefEqProofs [Qa.keys]) (.refl _) ⟨by unfold QF;rw[if_pos yes],by unfold QF;rw[if_pos yes];rfl⟩)
   ·have h1:t.kind≠1:=by simpa using hk1
    rcases hk3:(t.kind != 3)
    ·have h3:t.kind=3:=by simpa using hk3
     simp -implicitDefEqProofs [hk3,Qg,htk,ne1];have yes:code=0/\(hd (t::r)).isB t.text=true:=⟨hc,by rw[ht];simp -implicitDefEqProofs [Tok.isB,h3]⟩
     exact hR _ (.keep [] [(p,qblk ⟨r,pos,code⟩)] rfl (by simp -implicitDefEqProofs [qblk]) (by simp -implicitDefEqProofs) (by simp -implicitDefEqProofs [Qa.keys]) (by simp -implicitDefEqProofs [Qa.keys]) (.refl _) ⟨by unfold QF;rw[if_pos yes],by unfold QF;rw[if_pos yes];rfl⟩)
    ·have h3:t.kind≠3:=by simpa using hk3
     simp -implicitDefEqProofs [hk3];exact no (by rw[ht];simp -implicitDefEqProofs [Tok.isB,h1,h3]) _ rfl (by simp -implicitDefEqProofs [qblk,Qg])
  ·have htw:t.text≠w:=by simpa using htx
   have htw2:(t.text == w)=false:=by simpa using htx
   simp -implicitDefEqProofs [htw2];exact no (by rw[ht];simp -implicitDefEqProofs [Tok.isB,htw]) _ rfl (by simp -implicitDefEqProofs [qblk,Qg])
 ·have hcb:(code != 0)=true:=by simp -implicitDefEqProofs [hc]
  simp -implicitDefEqProofs [hcb];exact no (fun h=>hc h.1) _ rfl (by simp -implicitDefEqProofs [qblk,Qg])
theorem VN (s:QS) (hq:QOk s) (w:Bs):AQ 50 [encS w] s (.tup []) (WC w s):=by
 intro p;have htk:=Zt s hq.tok w p;have hn:WC w s=if (QF w s).1=true then (QF w s).2 else (QF w s).2.wrong (hd (QF w s).2.l).place 1:=rfl
 have h1:=hq.take w;generalize QF w s=x at htk hn h1;obtain⟨b,s1⟩:=x;simp only at htk hn h1;refine ent Tryz.func50 fun L K hL hR hN hP=>?_;simp -implicitDefEqProofs;refine Qe.det htk ?_ (by simp -implicitDefEqProofs [Qa.keys]) (by decide) rfl (fun v hv=>?_) (fun v hv=>by cases hv)
 ·simp -implicitDefEqProofs
 cases hv;cases b with
 | true=>
   rw[if_pos rfl] at hn;simp -implicitDefEqProofs;exact hN _ (.keeps (vs:=[]) [] [(p,qblk s1)] rfl (by simp -implicitDefEqProofs) (by simp -implicitDefEqProofs) (by simp -implicitDefEqProofs) (by simp -implicitDefEqProofs [Qa.keys]) (by simp -implicitDefEqProofs [Qa.keys]) (.refl _) ⟨rfl,by rw[hn]⟩)
 | false=>
   rw[if_neg (by simp -implicitDefEqProofs)] at hn;simp -implicitDefEqProofs;refine Qe.det (Zf s1 h1.tok p) ?_ (by simp -implicitDefEqProofs [Qa.keys]) (by decide) rfl (fun v hv=>?_) (fun v hv=>by cases hv)
   ·simp -implicitDefEqProofs
   cases hv;simp -implicitDefEqProofs [Qg];refine Qe.det (ZH s1 (hd s1.l).place 1 p) ?_ (by simp -implicitDefEqProofs [Qa.keys]) (by decide) rfl (fun v hv=>?_) (fun v hv=>by cases hv)
   ·simp -implicitDefEqProofs
   cases hv;simp -implicitDefEqProofs;exact hN _ (.keeps (vs:=[]) [] [(p,qblk (s1.wrong (hd s1.l).place 1))] rfl (by simp -implicitDefEqProofs) (by simp -implicitDefEqProofs) (by simp -implicitDefEqProofs) (by simp -implicitDefEqProofs [Qa.keys]) (by simp -implicitDefEqProofs [Qa.keys]) (.refl _) ⟨rfl,by rw[hn]⟩)
theorem wt (s:QS) (hq:QOk s):AQ 77 [] s (Qu (Wi s).1) (Wi s).2:=by
 intro p;have hnx:=Zf s hq.tok p;have hwr:=fun a e=>ZH s a e p;have hok:=hq.tok;obtain⟨l,pos,code⟩:=s;obtain⟨t,r,rfl,ht,hk⟩:=TokL.cons hok;have htk:(r.map Qg).take r.length=r.map Qg:=List.take_of_length_le (by simp -implicitDefEqProofs);have hz0:fz 0=0:=WZ;refine ent Tryz.func77 fun L K hL hR hN hP=>?_;have hpL:p.1<L:=hL p (by simp -implicitDefEqProofs [Qa.keys]);have ne1:¬ (L,0)=p:=fun e=>by rw[<- e] at hpL;exact Nat.lt_irrefl _ hpL
 have ne2:¬ p=(L,0):=fun e=>ne1 e.symm;simp -implicitDefEqProofs;refine Qe.det hnx ?_ (by simp -implicitDefEqProofs [Qa.keys]) (by decide) rfl (fun v hv=>?_) (fun v hv=>by cases hv)
 ·simp -implicitDefEqProofs
 cases hv;simp -implicitDefEqProofs [Qg,ht];have fm:Wi ⟨t::r,pos,code⟩=if t.kind=2 then (if code=0 then (t.num,⟨r,pos,code⟩) else (zero,⟨t::r,pos,code⟩)) else (zero,(⟨t::r,pos,code⟩:QS).wrong t.place 1):=by
  unfold Wi;simp only[ht]<;>rfl
 rcases hk2:(t.kind != 2)
 ·have h2:t.kind=2:=by simpa using hk2
  rw[if_pos h2] at fm;simp -implicitDefEqProofs [qblk,ne1];by_cases hc:code=0
  ·have hcb:(code != 0)=false:=by simp -implicitDefEqProofs [hc]
   rw[if_pos hc] at fm;simp -implicitDefEqProofs [hcb,Qg,htk,ne1];exact hR _ (.keep [] [(p,qblk ⟨r,pos,code⟩)] rfl (by simp -implicitDefEqProofs [qblk]) (by simp -implicitDefEqProofs) (by simp -implicitDefEqProofs [Qa.keys]) (by simp -implicitDefEqProofs [Qa.keys]) (.refl _) ⟨by rw[fm];rfl,by rw[fm]⟩)
  ·have hcb:(code != 0)=true:=by simp -implicitDefEqProofs [hc]
   rw[if_neg hc] at fm;simp -implicitDefEqProofs [hcb];exact hR _ (.keep [] [(p,qblk ⟨t::r,pos,code⟩)] rfl (by simp -implicitDefEqProofs [qblk,Qg]) (by simp -implicitDefEqProofs) (by simp -implicitDefEqProofs [Qa.keys]) (by simp -implicitDefEqProofs [Qa.keys]) (.refl _) ⟨by rw[fm];simp -implicitDefEqProofs [Qu,zero,hz0],by rw[fm]⟩)
 ·have h2:¬ t.kind=2:=by simpa using hk2
  rw[if_neg h2] at fm;simp -implicitDefEqProofs;refine Qe.det (hwr t.place 1) ?_ (by simp -implicitDefEqProofs [Qa.keys]) (by decide) rfl (fun v hv=>?_) (fun v hv=>by cases hv)
  ·simp -implicitDefEqProofs
  cases hv;by_cases hc:code=0
  ·have hw:(⟨t::r,pos,code⟩:QS).wrong t.place 1=⟨t::r,t.place,1⟩:=by simp -implicitDefEqProofs [QS.wrong,hc]
   rw[hw] at fm;simp -implicitDefEqProofs [hw,qblk,Qg,ne1];exact hR _ (.keep [] [(p,qblk ⟨t::r,t.place,1⟩)] rfl (by simp -implicitDefEqProofs [qblk,Qg]) (by simp -implicitDefEqProofs) (by simp -implicitDefEqProofs [Qa.keys]) (by simp -implicitDefEqProofs [Qa.keys]) (.refl _) ⟨by rw[fm];simp -implicitDefEqProofs [Qu,zero,hz0],by rw[fm]⟩)
  ·have hw:(⟨t::r,pos,code⟩:QS).wrong t.place 1=⟨t::r,pos,code⟩:=by simp -implicitDefEqProofs [QS.wrong,hc]
   have hcb:(code != 0)=true:=by simp -implicitDefEqProofs [hc]
   rw[hw] at fm;simp -implicitDefEqProofs [hw,hcb,qblk,Qg,ne1];exact hR _ (.keep [] [(p,qblk ⟨t::r,pos,code⟩)] rfl (by simp -implicitDefEqProofs [qblk,Qg]) (by simp -implicitDefEqProofs) (by simp -implicitDefEqProofs [Qa.keys]) (by simp -implicitDefEqProofs [Qa.keys]) (.refl _) ⟨by rw[fm];simp -implicitDefEqProofs [Qu,zero,hz0],by rw[fm]⟩)
theorem hWords:zb = .agg (Qy.map encS):=rfl
theorem hSorts:zd = .agg (QW.map encS):=rfl
theorem jP (s:QS) (hq:QOk s):AQ 47 [] s (.str (bs (WU s).1)) (WU s).2:=by
 intro p;have hnx:=Zf s hq.tok p;have hwr:=fun a e=>ZH s a e p;have hok:=hq.tok;obtain⟨l,pos,code⟩:=s;obtain⟨t,r,rfl,ht,hk⟩:=TokL.cons hok;have htk:(r.map Qg).take r.length=r.map Qg:=List.take_of_length_le (by simp -implicitDefEqProofs);refine ent Tryz.func47 fun L K hL hR hN hP=>?_;have hpL:p.1<L:=hL p (by simp -implicitDefEqProofs [Qa.keys]);have ne1:¬ (L,0)=p:=fun e=>by rw[<- e] at hpL;exact Nat.lt_irrefl _ hpL
 have ne2:¬ p=(L,0):=fun e=>ne1 e.symm;simp -implicitDefEqProofs;refine Qe.det hnx ?_ (by simp -implicitDefEqProofs [Qa.keys]) (by decide) rfl (fun v hv=>?_) (fun v hv=>by cases hv)
 ·simp -implicitDefEqProofs
 cases hv;have fm:WU ⟨t::r,pos,code⟩=if t.kind=1/\Wl t.text=false then (if code=0 then (t.text,⟨r,pos,code⟩) else ([],⟨t::r,pos,code⟩)) else ([],(⟨t::r,pos,code⟩:QS).wrong t.place 1):=by
  unfold WU;simp only[ht]<;>rfl
 have hkl:Qy.length=17:=rfl;have hsl:QW.length=6:=rfl;simp -implicitDefEqProofs [Qg,ht];rcases hk1:(t.kind != 1)
 ·have h1:t.kind=1:=by simpa using hk1
  simp -implicitDefEqProofs;rcases he:(t.text == [101,108,115,101])
  ·have he':(t.text == YW)=false:=he;simp -implicitDefEqProofs [hWords,hkl];refine Qc (UH Qy t.text (by decide)) ?_;rcases hc1:Qy.contains t.text
   ·simp -implicitDefEqProofs [hSorts,hsl];refine Qc (UH QW t.text (by decide)) ?_;rcases hc2:QW.contains t.text
    ·simp -implicitDefEqProofs;rw[if_pos ⟨h1,by unfold Wl;rw[hc1,hc2,he'];rfl⟩] at fm;by_cases hc:code=0
     ·have hcb:(code != 0)=false:=by simp -implicitDefEqProofs [hc]
      rw[if_pos hc] at fm;simp -implicitDefEqProofs [hcb,qblk,Qg,htk,ne1];exact hR _ (.keep [] [(p,qblk ⟨r,pos,code⟩)] rfl (by simp -implicitDefEqProofs [qblk]) (by simp -implicitDefEqProofs) (by simp -implicitDefEqProofs [Qa.keys]) (by simp -implicitDefEqProofs [Qa.keys]) (.refl _) ⟨by rw[fm],by rw[fm]⟩)
     ·have hcb:(code != 0)=true:=by simp -implicitDefEqProofs [hc]
      rw[if_neg hc] at fm;simp -implicitDefEqProofs [hcb,qblk,Qg,ne1];exact hR _ (.keep [] [(p,qblk ⟨t::r,pos,code⟩)] rfl (by simp -implicitDefEqProofs [qblk,Qg]) (by simp -implicitDefEqProofs) (by simp -implicitDefEqProofs [Qa.keys]) (by simp -implicitDefEqProofs [Qa.keys]) (.refl _) ⟨by rw[fm],by rw[fm]⟩)
    ·have hres:Wl t.text=true:=by unfold Wl;rw[hc2,Bool.or_true,Bool.true_or]
     rw[if_neg (fun x=>by rw[hres] at x;exact Bool.noConfusion x.2)] at fm;simp -implicitDefEqProofs;refine Qe.det (hwr t.place 1) ?_ (by simp -implicitDefEqProofs [Qa.keys]) (by decide) rfl (fun v hv=>?_) (fun v hv=>by cases hv)
     ·simp -implicitDefEqProofs
     cases hv;obtain⟨l2,p2,c2,hw,hc2⟩:∃ l2 p2 c2,(⟨t::r,pos,code⟩:QS).wrong t.place 1=⟨l2,p2,c2⟩/\c2≠0:=by
      unfold QS.wrong;by_cases hc:code=0
      ·exact⟨t::r,t.place,1,by simp -implicitDefEqProofs [hc],by decide⟩
      ·exact⟨t::r,pos,code,by simp -implicitDefEqProofs [hc],hc⟩
     have hcb:(c2 != 0)=true:=by simp -implicitDefEqProofs [hc2]
     rw[hw] at fm;simp -implicitDefEqProofs [hw,hcb,qblk,ne1];exact hR _ (.keep [] [(p,qblk ⟨l2,p2,c2⟩)] rfl (by simp -implicitDefEqProofs [qblk]) (by simp -implicitDefEqProofs) (by simp -implicitDefEqProofs [Qa.keys]) (by simp -implicitDefEqProofs [Qa.keys]) (.refl _) ⟨by rw[fm],by rw[fm]⟩)
   ·have hres:Wl t.text=true:=by unfold Wl;rw[hc1,Bool.true_or,Bool.true_or]
    rw[if_neg (fun x=>by rw[hres] at x;exact Bool.noConfusion x.2)] at fm;simp -implicitDefEqProofs;refine Qe.det (hwr t.place 1) ?_ (by simp -implicitDefEqProofs [Qa.keys]) (by decide) rfl (fun v hv=>?_) (fun v hv=>by cases hv)
    ·simp -implicitDefEqProofs
    cases hv;obtain⟨l2,p2,c2,hw,hc2⟩:∃ l2 p2 c2,(⟨t::r,pos,code⟩:QS).wrong t.place 1=⟨l2,p2,c2⟩/\c2≠0:=by
     unfold QS.wrong;by_cases hc:code=0
     ·exact⟨t::r,t.place,1,by simp -implicitDefEqProofs [hc],by decide⟩
     ·exact⟨t::r,pos,code,by simp -implicitDefEqProofs [hc],hc⟩
    have hcb:(c2 != 0)=true:=by simp -implicitDefEqProofs [hc2]
    rw[hw] at fm;simp -implicitDefEqProofs [hw,hcb,qblk,ne1];exact hR _ (.keep [] [(p,qblk ⟨l2,p2,c2⟩)] rfl (by simp -implicitDefEqProofs [qblk]) (by simp -implicitDefEqProofs) (by simp -implicitDefEqProofs [Qa.keys]) (by simp -implicitDefEqProofs [Qa.keys]) (.refl _) ⟨by rw[fm],by rw[fm]⟩)
  ·have he':(t.text == YW)=true:=he;have hres:Wl t.text=true:=by unfold Wl;rw[he',Bool.or_true]
   rw[if_neg (fun x=>by rw[hres] at x;exact Bool.noConfusion x.2)] at fm;simp -implicitDefEqProofs;refine Qe.det (hwr t.place 1) ?_ (by simp -implicitDefEqProofs [Qa.keys]) (by decide) rfl (fun v hv=>?_) (fun v hv=>by cases hv)
   ·simp -implicitDefEqProofs
   cases hv;obtain⟨l2,p2,c2,hw,hc2⟩:∃ l2 p2 c2,(⟨t::r,pos,code⟩:QS).wrong t.place 1=⟨l2,p2,c2⟩/\c2≠0:=by
    unfold QS.wrong;by_cases hc:code=0
    ·exact⟨t::r,t.place,1,by simp -implicitDefEqProofs [hc],by decide⟩
    ·exact⟨t::r,pos,code,by simp -implicitDefEqProofs [hc],hc⟩
   have hcb:(c2 != 0)=true:=by simp -implicitDefEqProofs [hc2]
   rw[hw] at fm;simp -implicitDefEqProofs [hw,hcb,qblk,ne1];exact hR _ (.keep [] [(p,qblk ⟨l2,p2,c2⟩)] rfl (by simp -implicitDefEqProofs [qblk]) (by simp -implicitDefEqProofs) (by simp -implicitDefEqProofs [Qa.keys]) (by simp -implicitDefEqProofs [Qa.keys]) (.refl _) ⟨by rw[fm],by rw[fm]⟩)
 ·have h1:¬ t.kind=1:=by simpa using hk1
  rw[if_neg (fun x=>h1 x.1)] at fm;simp -implicitDefEqProofs;refine Qe.det (hwr t.place 1) ?_ (by simp -implicitDefEqProofs [Qa.keys]) (by decide) rfl (fun v hv=>?_) (fun v hv=>by cases hv)
  ·simp -implicitDefEqProofs
  cases hv;obtain⟨l2,p2,c2,hw,hc2⟩:∃ l2 p2 c2,(⟨t::r,pos,code⟩:QS).wrong t.place 1=⟨l2,p2,c2⟩/\c2≠0:=by
   unfold QS.wrong;by_cases hc:code=0
   ·exact⟨t::r,t.place,1,by simp -implicitDefEqProofs [hc],by decide⟩
   ·exact⟨t::r,pos,code,by simp -implicitDefEqProofs [hc],hc⟩
  have hcb:(c2 != 0)=true:=by simp -implicitDefEqProofs [hc2]
  rw[hw] at fm;simp -implicitDefEqProofs [hw,hcb,qblk,ne1];exact hR _ (.keep [] [(p,qblk ⟨l2,p2,c2⟩)] rfl (by simp -implicitDefEqProofs [qblk]) (by simp -implicitDefEqProofs) (by simp -implicitDefEqProofs [Qa.keys]) (by simp -implicitDefEqProofs [Qa.keys]) (.refl _) ⟨by rw[fm],by rw[fm]⟩)
theorem kind_q (s:QS) (hq:QOk s):AQ 116 [] s (.int .i64 ((Xe s).1:Nat)) (Xe s).2:=by
 intro p;obtain⟨gl,hgl,hgl17,hglk⟩:∃ gl,zb=V.agg gl/\gl.length=17/\∀ k,k<17->gl[k]? = some (V.str (bs (Qy.getD k []))):=⟨_,rfl,rfl,fun k hk=>by rcases nat17 hk with rfl|rfl|rfl|rfl|rfl|rfl|rfl|rfl|rfl|rfl|rfl|rfl|rfl|rfl|rfl|rfl|rfl<;>rfl⟩
 refine ent Tryz.func116 fun L K hL hR hN hP=>?_;simp -implicitDefEqProofs;refine QB (α:=Nat) (fun k=>1<=k/\k<=17/\∀ j,1<=j->j<k->¬ (s.code=0/\(hd s.l).isB (Qy.getD j [])=true)) (fun k=>[(0,.ptr p 0),(3,.int .i64 (k:Int))]) (fun _=>[(p,qblk s)]) (fun k=>17 - k) 1 ⟨by omega,by omega,fun j h1 h2=>by omega⟩ twk ?_;rintro k L1 K1 ⟨hk1,hk,hnone⟩ hL1 - hnext hex hrt - hpn;simp -implicitDefEqProofs;refine Qv.mk (fun hb=>?_) fun hb=>?_
 ·have hk17:k<17:=by simp -implicitDefEqProofs at hb;omega
  have b1:(0:Int)<=(k:Int):=by omega
  have b2:(k:Int)<17:=by omega
  have hlv:∀ h:k<gl.length,gl[k]'h=V.str (bs (Qy.getD k [])):=fun h=>by
   have:=hglk k hk17;rw[List.getElem?_eq_getElem h] at this;exact Option.some.inj this
  obtain⟨w,hw⟩:∃ w,w=Qy.getD k []:=⟨_,rfl⟩
  rw[<- hw] at hlv;simp -implicitDefEqProofs [hgl,hgl17,hlv,b1,b2,hk17];refine Qe.det (Zt s hq.tok w p) ?_ (by simp -implicitDefEqProofs [Qa.keys]) (by decide) rfl (fun v hv=>?_) (fun v hv=>by cases hv)
  ·simp -implicitDefEqProofs
  cases hv;by_cases hb:s.code=0/\(hd s.l).isB w=true
  ·have hko:kindOf (hd s.l)=k:=uQ hk1 hk17 (fun j h1 h2=>by
    have:=hnone j h1 h2;rcases hx:(hd s.l).isB (Qy.getD j []) with _|_
    ·rfl
    ·exact absurd ⟨hb.1,hx⟩ this) (by rw[<- hw];exact hb.2)
   have hkm:Xe s=(k,s.next):=by unfold Xe;rw[if_pos ⟨hb.1,by omega⟩,hko]
   have htm:QF w s=(true,s.next):=if_pos hb;rw[htm];simp -implicitDefEqProofs;exact hrt _ (hR _ (.keep [] [(p,qblk s.next)] rfl (by simp -implicitDefEqProofs) (by simp -implicitDefEqProofs) (by simp -implicitDefEqProofs [Qa.keys]) (by simp -implicitDefEqProofs [Qa.keys]) (.refl _) ⟨by rw[hkm],by rw[hkm]⟩))
  ·have htm:QF w s=(false,s):=if_neg hb;have w1:=wr2 k;rw[htm];simp -implicitDefEqProofs [w1];exact hnext _ (k+1) ⟨by omega,by omega,fun j h1 h2=>by
    by_cases e:j=k
    ·rw[e,<- hw];exact hb
    ·exact hnone j h1 (by omega)⟩ (by omega) twk
 ·have hk17:k=17:=by simp -implicitDefEqProofs at hb;omega
  subst hk17;refine hex _ _ ?_;simp -implicitDefEqProofs;have hkm:Xe s=(0,s):=by
   unfold Xe;by_cases hc:s.code=0
   ·have:kindOf (hd s.l)=0:=zJ fun j h1 h2=>by
     have:=hnone j h1 h2;rcases hx:(hd s.l).isB (Qy.getD j []) with _|_
     ·rfl
     ·exact absurd ⟨hc,hx⟩ this
    rw[if_neg (fun h=>h.2 this)]
   ·rw[if_neg (fun h=>hc h.1)]
  exact hR _ (.keep [] [(p,qblk s)] rfl (by simp -implicitDefEqProofs) (by simp -implicitDefEqProofs) (by simp -implicitDefEqProofs [Qa.keys]) (by simp -implicitDefEqProofs [Qa.keys]) (.refl _) ⟨by rw[hkm];rfl,by rw[hkm]⟩)
end Go.Awp.R1
