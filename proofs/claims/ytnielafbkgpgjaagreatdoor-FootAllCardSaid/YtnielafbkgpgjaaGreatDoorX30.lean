/- Plain law: the statements' own parser: numbers and declarations. -/
import Derived.Test.YtnielafbkgpgjaaGreatDoorX29
set_option linter.all false
set_option maxRecDepth 100000
set_option maxHeartbeats 8000000
namespace Go.Awp.R1
open Go Go.Awp Go.Proofs Go.Awp.Sp
theorem wu {l:List Tok} {pos:Int}:Wi ⟨l,pos,0⟩=if (hd l).kind=2 then ((hd l).num,⟨l.tail,pos,0⟩) else (zero,⟨l,(hd l).place,1⟩):=by
 unfold Wi;by_cases h:(hd l).kind=2
 ·rw[if_pos h,if_pos h,if_pos rfl]<;>rfl
 ·rw[if_neg h,if_neg h]<;>rfl
def YN (c:Cx) (s2:QS):Cx × QS:=
 if c.im≠0∨s2.code≠0 then (c,s2) else
  match QF [45] s2 with
  | (m2,s3)=>match (if m2 then (true,s3) else QF [43] s3) with
    | (q,s4)=>if q=false then (c,s4) else
      match Wi s4 with
      | (d,s5)=>(⟨c.re,if m2 then 0 - d.im else d.im⟩,if d.im=0 then s5.wrong (hd s4.l).place 1 else s5)
theorem VL (s:QS):YA s=YN (if (QF [45] s).1 then ⟨0 - (Wi (QF [45] s).2).1.re,0 - (Wi (QF [45] s).2).1.im⟩ else (Wi (QF [45] s).2).1) (Wi (QF [45] s).2).2:=rfl
theorem vi {c:Cx} {l:List Tok} {pos:Int} (hl:TokL l):Wc (second c l) pos (some (YN c ⟨l,pos,0⟩)):=by
 unfold second YN;by_cases hi:c.im≠0
 ·rw[if_pos hi,if_pos (.inl hi)]<;>rfl
 ·have hi2:¬ (c.im≠0∨(⟨l,pos,0⟩:QS).code≠0):=fun x=>x.elim hi fun y=>y rfl;rw[if_neg hi,if_neg hi2];simp only[Zu];have tail:∀ (m2:Bool),(hd l).kind≠0->Wc (if (hd l.tail).kind≠2∨(hd l.tail).num.im=0 then .error ((hd l.tail).place,WE) else .ok (⟨c.re,if m2 then 0 - (hd l.tail).num.im else (hd l.tail).num.im⟩,l.tail.tail)) pos
   (some (match Wi ⟨l.tail,pos,0⟩ with|(d,s5)=>((⟨c.re,if m2 then 0 - d.im else d.im⟩:Cx),if d.im=0 then s5.wrong (hd l.tail).place 1 else s5))):=fun m2 h0=>by
   have ht:=hl.tail h0;rw[wu];by_cases h2:(hd l.tail).kind=2
   ·rw[if_pos h2];simp only;by_cases h3:(hd l.tail).num.im=0
    ·rw[if_pos (.inr h3),if_pos h3];exact .inr ⟨by simp[WE],_,l.tail.tail,ht.tail (by rw[h2];decide),rfl⟩
    ·rw[if_neg (fun x=>x.elim (fun y=>y h2) h3),if_neg h3]<;>rfl
   ·rw[if_neg h2,if_pos (.inl h2)];exact .inr ⟨by simp[WE],_,l.tail,ht,rfl⟩
  rcases hm:(hd l).isB [45]
  ·simp only[if_neg Bool.false_ne_true,Zu];rcases hp:(hd l).isB [43]
   ·simp;rfl
   ·rw[if_neg (fun x=>by simp at x)];have:=tail false (QC hp);simpa using this
  ·rw[if_neg (fun x=>by simp at x)];have:=tail true (QC hm);simpa using this
theorem ui {l:List Tok} {pos:Int} (hl:TokL l):Wc (Wn l) pos (some (YA ⟨l,pos,0⟩)):=by
 rw[JG,VL];simp only[Zu];have hs:(if (hd l).isB [45]=true then (⟨l.tail,pos,0⟩:QS) else ⟨l,pos,0⟩)=⟨if (hd l).isB [45]=true then l.tail else l,pos,0⟩:=by split<;>rfl
 rw[hs];have ht:TokL (if (hd l).isB [45]=true then l.tail else l):=by
  split
  ·rename_i h;exact hl.tail (QC h)
  ·exact hl
 generalize (if (hd l).isB [45]=true then l.tail else l)=l1 at ht ⊢;rw[wu];by_cases h2:(hd l1).kind=2
 ·rw[if_neg (fun x=>x h2),if_pos h2];exact vi (ht.tail (by rw[h2];decide))
 ·rw[if_pos h2,if_neg h2];unfold YN;rw[if_pos (.inr (by show (1:Int)≠0;decide))];exact .inr ⟨by simp[WE],_,l1,ht,rfl⟩
def declM (f:Nat) (s:QS):Option (Dc × QS):=
 let k:=Wz (hd s.l)
 let r:=if k=4 then ([],s.next) else WU s.next
 if k=5 then
  match Xn f 1 r.2 with
  | none=>none
  | some (b,s3)=>some (⟨5,r.1,zero,b,(hd s.l).place⟩,s3)
 else
  let z:=if k=2 then (zero,r.2) else YA r.2
  some (⟨k,r.1,z.1,[],(hd s.l).place⟩,WC [59] z.2)
theorem Qsw {s:QS} (h:s.code≠0):(YA s).2=s:=by
 rw[VL,Zv h];simp only[QCq h];unfold YN;rw[if_pos (.inr h)]
theorem zO {f:Nat} {l:List Tok} {pos:Int} (hl:QL l) (hk:Wz (hd l)≠6):Wc (XU f l) pos (declM (f+4) ⟨l,pos,0⟩):=by
 have ht:=hl.tail (Vi hk);unfold XU declM;simp only;rw[if_neg hk];have key:∀ (r:PR Bs) (m:Bs × QS),Wc r pos (some m)->(∀ n l2,r = .ok (n,l2)->QL l2)->Wc (match r with
  | .error e=>.error e
  | .ok (name,r)=>
    if Wz (hd l)=5 then
     match QT f 0 r with
     | .error e=>.error e
     | .ok (b,r)=>.ok ((⟨5,name,zero,b,(hd l).place⟩:Dc),r)
    else
     match (if Wz (hd l)=2 then .ok (zero,r) else Wn r:PR Cx) with
     | .error e=>.error e
     | .ok (z,r)=>match QZ [59] r with
       | .error e=>.error e
       | .ok (_,r)=>.ok ((⟨Wz (hd l),name,z,[],(hd l).place⟩:Dc),r)) pos
  (if Wz (hd l)=5 then
    match Xn (f+4) 1 m.2 with
    | none=>none
    | some (b,s3)=>some ((⟨5,m.1,zero,b,(hd l).place⟩:Dc),s3)
  else some ((⟨Wz (hd l),m.1,(if Wz (hd l)=2 then (zero,m.2) else YA m.2).1,[],(hd l).place⟩:Dc),WC [59] (if Wz (hd l)=2 then (zero,m.2) else YA m.2).2)):=fun r m h1 h2=>by
  rcases r with er|⟨name,l1⟩
  ·rcases h1 with h1|⟨h1,a,l',ht',hm⟩
   ·exact .inl h1
   ·have hm:=Option.some.inj hm;subst hm;have hne:(⟨l',er.1,er.2⟩:QS).code≠0:=h1;simp only;by_cases h5:Wz (hd l)=5
    ·rw[if_pos h5,vF (f:=f+2) hne];exact .inr ⟨h1,_,l',ht',rfl⟩
    ·rw[if_neg h5];by_cases h2:Wz (hd l)=2
     ·rw[if_pos h2,YB hne];exact .inr ⟨h1,_,l',ht',rfl⟩
     ·rw[if_neg h2,Qsw hne,YB hne];exact .inr ⟨h1,_,l',ht',rfl⟩
  ·have hm:m=(name,⟨l1,pos,0⟩):=Option.some.inj h1;subst hm;have hl1:=h2 name l1 rfl;simp only;by_cases h5:Wz (hd l)=5
   ·rw[if_pos h5,if_pos h5];have h3:=(ze f).1 0 l1 pos (by omega) hl1;rcases hr:QT f 0 l1 with er|⟨b,l2⟩
    ·rw[hr] at h3;rcases h3 with h3|⟨h3,a,l',ht',hm⟩
     ·exact .inl h3
     ·rw[hm];exact .inr ⟨h3,_,l',ht',rfl⟩
    ·rw[hr] at h3;have h3:Xn (f+4) 1 ⟨l1,pos,0⟩=some (b,⟨l2,pos,0⟩):=h3;rw[h3]<;>rfl
   ·rw[if_neg h5,if_neg h5];have fin:∀ (z:Cx) (l2:List Tok),TokL l2->Wc (match QZ [59] l2 with|.error e=>.error e|.ok (_,r)=>.ok ((⟨Wz (hd l),name,z,[],(hd l).place⟩:Dc),r)) pos (some (⟨Wz (hd l),name,z,[],(hd l).place⟩,WC [59] ⟨l2,pos,0⟩)):=fun z l2 hl2=>by
     rw[Yn];rcases hm:QZ [59] l2 with e|⟨u,l3⟩
     ·have:=Yo hm;exact .inr ⟨by omega,_,l2,hl2,rfl⟩
     ·rfl
    by_cases h2:Wz (hd l)=2
    ·rw[if_pos h2,if_pos h2];exact fin zero l1 hl1.tok
    ·rw[if_neg h2,if_neg h2];have h3:=ui (pos:=pos) hl1.tok;rcases hr:Wn l1 with er|⟨z,l2⟩
     ·rw[hr] at h3;rcases h3 with h3|⟨h3,a,l',ht',hm⟩
      ·exact .inl h3
      ·have hm:=Option.some.inj hm;have hne:(⟨l',er.1,er.2⟩:QS).code≠0:=h3;rw[hm];simp only[YB hne];exact .inr ⟨h3,_,l',ht',rfl⟩
     ·rw[hr] at h3;have h3:YA ⟨l1,pos,0⟩=(z,⟨l2,pos,0⟩):=Option.some.inj h3;rw[h3];exact fin z l2 (VM hl1.tok hr).1.1
 refine key _ _ ?_ ?_
 ·by_cases h4:Wz (hd l)=4
  ·rw[if_pos h4,if_pos h4]<;>rfl
  ·rw[if_neg h4,if_neg h4];show Wc (WI l.tail) pos (some (WU ⟨l.tail,pos,0⟩));rw[VO];rcases hn:WI l.tail with e|⟨n,l1⟩
   ·have:=VP hn;exact .inr ⟨by omega,_,l.tail,ht.tok,rfl⟩
   ·rfl
 ·intro n l2 h;by_cases h4:Wz (hd l)=4
  ·rw[if_pos h4] at h;cases h;exact ht
  ·rw[if_neg h4] at h;exact ht.sub (Vl ht.tok h) (YC h)
theorem exM_len:∀ f,(∀ k s e s',exM f k s=some (e,s')->s'.l.length<=s.l.length)/\(∀ k e0 s e s',chM f k e0 s=some (e,s')->s'.l.length<=s.l.length)
 | 0=>⟨fun k s e s' h=>(by rw[exM] at h;cases h),fun k e0 s e s' h=>(by rw[chM] at h;cases h)⟩
 | f+1=>by
   obtain⟨ih1,ih2⟩:=exM_len f;have nx:∀ s:QS,s.next.l.length<=s.l.length:=fun s=>by show s.l.tail.length<=_;simp
   have wr:∀ (s:QS) a b,(s.wrong a b).l=s.l:=fun s a b=>by unfold QS.wrong;split<;>rfl
   have tk:∀ w (s:QS),(QF w s).2.l.length<=s.l.length:=fun w s=>by unfold QF;split;exact nx s;exact Nat.le_refl _
   have nd:∀ w (s:QS),(WC w s).l.length<=s.l.length:=fun w s=>by
    unfold WC;split
    ·exact tk w s
    ·rw[wr];exact tk w s
   have nm:∀ s:QS,(WU s).2.l.length<=s.l.length:=fun s=>by
    unfold WU;split
    ·split
     ·exact nx s
     ·exact Nat.le_refl _
    ·rw[wr];exact Nat.le_refl _
   refine⟨fun k s e s' h=>?_,fun k e0 s e s' h=>?_⟩
   ·rw[exM] at h;split at h
    ·split at h
     ·cases h
     ·rename_i e1 s1 h1;exact Nat.le_trans (ih2 _ _ _ _ _ h) (ih1 _ _ _ _ h1)
    ·split at h
     ·split at h
      ·split at h
       ·cases h
       ·rename_i e1 s1 h1;cases h;exact Nat.le_trans (ih1 _ _ _ _ h1) (nx s)
      ·split at h
       ·cases h;exact nx s
       ·split at h
        ·split at h
         ·cases h
         ·rename_i e1 s1 h1;cases h;exact Nat.le_trans (nd _ _) (Nat.le_trans (ih1 _ _ _ _ h1) (nx s))
        ·cases h;exact nm s
     ·cases h;exact nm s
   ·rw[chM] at h;split at h
    ·split at h
     ·split at h
      ·cases h;exact Nat.le_refl _
      ·split at h
       ·cases h
       ·rename_i e1 s1 h1;cases h;exact Nat.le_trans (ih1 _ _ _ _ h1) (nx s)
     ·cases h;exact Nat.le_refl _
    ·split at h
     ·split at h
      ·cases h
      ·rename_i e1 s1 h1;exact Nat.le_trans (ih2 _ _ _ _ _ h) (Nat.le_trans (ih1 _ _ _ _ h1) (nx s))
     ·cases h;exact Nat.le_refl _
def Enough (f:Nat) (s:QS):Prop:=s.code=0->s.l.length<=1000000/\4*s.l.length+8<=f
theorem exM_depth {f:Nat} {s s1:QS} {e:Ex} (hq:QL s.l) (hf:Enough f s) (h:exM f 0 s=some (e,s1)) (h0:s1.code=0):okE 1000000 e:=by
 by_cases hc:s.code=0
 ·obtain⟨hlen,hfu⟩:=hf hc;obtain⟨f',rfl⟩:∃ f',f=f' + 4:=⟨f - 4,by omega⟩
  obtain⟨l,pos,code⟩:=s;simp only at hq hc hlen hfu;subst hc;have h1:=(zf f').1 0 l pos (by omega) hq;rcases hr:exE f' 0 l with er|⟨e',l1⟩
  ·rw[hr] at h1;rcases h1 with h1|⟨h1,a,l',ht,hm⟩
   ·obtain⟨q,c⟩:=er;simp only at h1;subst h1;exact absurd hr ((Qcq f').1 0 l (by omega) hq.tok (by omega) q)
   ·rw[h] at hm;cases hm;exact absurd h0 h1
  ·rw[hr] at h1;have h1:exM (f' + 4) 0 ⟨l,pos,0⟩=some (e',⟨l1,pos,0⟩):=h1;rw[h] at h1;cases h1;obtain⟨c,hcl,ho⟩:=(vo f').1 _ _ _ _ hq.tok hr;exact JF ho (by omega)
 ·exfalso;have key:∀ f,(∀ k s e s',exM f k s=some (e,s')->s.code≠0->s'.code≠0)/\(∀ k e0 s e s',chM f k e0 s=some (e,s')->s.code≠0->s'.code≠0):=fun f=>by
   induction f with
   | zero=>exact⟨fun k s e s' h=>(by rw[exM] at h;cases h),fun k e0 s e s' h=>(by rw[chM] at h;cases h)⟩
   | succ f ih=>
     obtain⟨ih1,ih2⟩:=ih;refine⟨fun k s e s' h hc=>?_,fun k e0 s e s' h hc=>?_⟩
     ·rw[exM] at h;split at h
      ·split at h
       ·cases h
       ·rename_i e1 s1 h1;exact ih2 _ _ _ _ _ h (ih1 _ _ _ _ h1 hc)
      ·rw[UP hc] at h;cases h;exact hc
     ·rw[chM] at h;by_cases hk:k=0
      ·rw[if_pos hk,if_neg hc] at h;cases h;exact hc
      ·rw[if_neg hk,if_neg (fun x=>hc x.1)] at h;cases h;exact hc
  exact (key f).1 _ _ _ _ h hc h0
theorem whole_q (f:Nat) (s:QS) (e:Ex) (s':QS) (hs:QOk s) (hf:Enough f s) (h:XJ f s=some (e,s')):AQ 118 [] s (Qh e) s':=by
 intro p;unfold XJ at h;rcases h0:exM f 0 s with _|⟨e0,s1⟩
 ·rw[h0] at h;cases h
 rw[h0] at h;have h:some (e0,if s1.code=0/\12<WA e0 then s1.wrong (hd s.l).place 10 else s1)=some (e,s'):=h;obtain⟨rfl,rfl⟩:=Prod.mk.inj (Option.some.inj h);have hs1:=(VT f).1 _ _ _ _ hs h0;have hcall:=(expr_allQ f).2.2.2 s e0 s1 hs h0 p;have hdep:=exM_depth hs.ql hf h0;have hnx:=Zf s hs.tok p;have hwr:=ZH s1 (hd s.l).place 10 p;refine ent Tryz.func118 fun L K hL hR hN hP=>?_;have hpL:p.1<L:=hL p (by simp[Qa.keys]);have ne1:¬ (L,0)=p:=fun e=>by rw[<- e] at hpL;exact Nat.lt_irrefl _ hpL
 have ne2:¬ p=(L,0):=fun e=>ne1 e.symm;have q1:¬ (L,1)=p:=fun e=>by rw[<- e] at hpL;exact Nat.lt_irrefl _ hpL
 have q2:¬ p=(L,1):=fun e=>q1 e.symm;simp;refine Qe.det hnx ?_ (by simp[Qa.keys]) (by decide) rfl (fun v hv=>?_) (fun v hv=>by cases hv)
 ·simp
 cases hv;generalize hd s.l=t at hwr hR ⊢;simp[Qg,ne1];refine Qe.det hcall ?_ (by simp[Qa.keys]) (by decide) rfl (fun v hv=>?_) (fun v hv=>by cases hv)
 ·simp
 cases hv;have fin:∀ s2,s2=(if s1.code=0/\12<WA e0 then s1.wrong t.place 10 else s1)->∀ s3:ASt,Qf TC.P s3 [.cell 2 192]=some [Qh e0]->(p,qblk s2)∈s3.σ->K .ret s3:=fun s2 he s3 h1 h2=>by
  rw[<- he] at hR;exact hR s3 (.keep [] [(p,qblk s2)] h1 (by simpa using h2) (by simp) (by simp[Qa.keys]) (by simp[Qa.keys]) (.refl _) ⟨rfl,rfl⟩)
 have hcell:Qh e0 = .agg (Zl e0):=QDq e0;obtain⟨l1,pos1,code1⟩:=s1;by_cases hc:code1=0
 ·have hcb:(code1 == 0)=true:=by simp[hc]
  have hd:=depth_q 1000000 e0 (by omega) (hdep hc);have hdb:WA e0<=1000000:=Jo _ _ (hdep hc);obtain⟨eo,en,em,ep⟩:=e0;simp[Qh,qblk,hcb,ne1,q1];refine Qc hd ?_;by_cases h12:12<WA (.mk eo en em ep)
  ·have hdi:decide ((12:Int)<((WA (.mk eo en em ep):Nat):Int))=true:=decide_eq_true (by omega);simp[hdi];refine Qe.det hwr ?_ (by simp[Qa.keys]) (by decide) rfl (fun v hv=>?_) (fun v hv=>by cases hv)
   ·simp[qblk]
   cases hv;simp[ne1,ne2,q1,q2];exact fin _ (by rw[if_pos ⟨hc,h12⟩]) _ (by simp[Qf,Qj,ne2,Qh]) (by simp)
  ·have hdi:decide ((12:Int)<((WA (.mk eo en em ep):Nat):Int))=false:=decide_eq_false (by omega);simp[hdi,ne2];exact fin _ (by rw[if_neg (fun x=>h12 x.2)]) _ (by simp[Qf,Qj,ne2,Qh]) (by simp[qblk])
 ·have hcb:(code1 == 0)=false:=by simp[hc]
  obtain⟨eo,en,em,ep⟩:=e0;simp[Qh,qblk,hcb,ne1,ne2,q1];exact fin _ (by rw[if_neg (fun x=>hc x.1)]) _ (by simp[Qf,Qj,ne2,Qh]) (by simp[qblk])
theorem idxI_at:∀ (ws:List Int) (s:Int) (k:Nat),(∀ j,j<k->ws[j]?≠some s)->ws[k]? = some s->ws.contains s=true
 | ws,s,k,_,h=>by
   rw[List.contains_iff_mem];exact List.mem_of_getElem? h
theorem ContI_ok (zs:List Int) (v:Int) (hl:zs.length<=1000000):Ql TC 117 [.slice (zs.map (V.int .i64)),.int .i64 v] (.bool (zs.contains v)):=by
 have hix:Va TC 145 [.slice (zs.map (V.int .i64)),.int .i64 v] (fun x=>∃ w:Int,x = .int .i64 w/\decide (0<=w)=zs.contains v):=by
  refine ent Tryz.func145 fun L K hL hR hN hP=>?_;simp;refine QB (α:=Nat) (fun k=>k<=zs.length/\∀ j,j<k->zs[j]?≠some v) (fun k=>[(0,.slice (zs.map (V.int .i64))),(1,.int .i64 v),(7,.int .i64 zs.length),(8,.int .i64 k)]) (fun _=>[]) (fun k=>zs.length - k) 0 ⟨by simp,fun j hj=>by omega⟩ twk ?_;rintro k L1 K1 ⟨hk,hpre⟩ hL1 - hnext hex hrt - -;simp;refine Qv.mk (fun hb=>?_) fun hb=>?_
  ·have hlt:k<zs.length:=by simpa using hb
   have hx:zs[k]? = some zs[k]:=List.getElem?_eq_getElem hlt;generalize zs[k]=z at hx;have w1:=wr2 k;rcases hp:(v == z)
   ·simp[hx,hp,w1];refine hnext _ (k+1) ⟨by omega,fun j hj=>?_⟩ (by omega) twk;by_cases e:j=k
    ·rw[e,hx];intro h;cases h;simp at hp
    ·exact hpre j (by omega)
   ·have hz:v=z:=by simpa using hp
    subst hz;simp[hx];refine hrt _ (hR _ (.ZN rfl (.refl _) ⟨k,rfl,?_⟩));have:=idxI_at zs v k hpre hx;simpa using this
  ·refine hex _ _ ?_;simp;refine hR _ (.ZN rfl (.refl _) ⟨-1,rfl,?_⟩);have:zs.contains v=false:=by
    rw[Bool.eq_false_iff];intro h;rw[List.contains_iff_mem] at h;obtain⟨i,hi,e⟩:=List.getElem_of_mem h;have hkn:¬ k<zs.length:=by simpa using hb
    exact hpre i (by omega) (by rw[List.getElem?_eq_getElem hi,e])
   simpa using this
 refine ent Tryz.func117 fun L K hL hR hN hP=>?_;simp;refine Qe.ZN hix (by decide) rfl ?_;rintro x ⟨w,rfl,hw⟩;simp;refine hR _ (.pure rfl ?_);rw[<- hw];exact .refl _
theorem Wc.ok0 {α:Type} {r:PR α} {pos:Int} {a:α} {s':QS} (h:Wc r pos (some (a,s'))) (h0:s'.code=0) (hok:okR r):r = .ok (a,s'.l)/\s' = ⟨s'.l,pos,0⟩:=by
 rcases r with⟨q,c⟩|⟨b,l2⟩
 ·rcases h with h|⟨h,a',l',ht,hm⟩
  ·simp only at h;subst h;exact absurd rfl (hok q)
  ·cases hm;exact absurd h0 h
 ·cases h;exact⟨rfl,rfl⟩
structure LeQ (s s':QS):Prop where
 len:s'.l.length<=s.l.length
 code:s'.code=0->s.code=0
theorem LeQ.refl (s:QS):LeQ s s:=⟨Nat.le_refl _,fun h=>h⟩
theorem LeQ.trans {a b c:QS} (h:LeQ a b) (k:LeQ b c):LeQ a c:=⟨Nat.le_trans k.len h.len,fun x=>h.code (k.code x)⟩
theorem LeQ.next (s:QS):LeQ s s.next:=⟨by show s.l.tail.length<=_;simp,fun h=>h⟩
theorem LeQ.wrong (s:QS) (a b:Int) (hb:b≠0):LeQ s (s.wrong a b):=by
 unfold QS.wrong;split
 ·exact⟨Nat.le_refl _,fun h=>absurd h hb⟩
 ·exact .refl s
theorem LeQ.take (s:QS) (w:Bs):LeQ s (QF w s).2:=by
 unfold QF;split
 ·exact .next s
 ·exact .refl s
theorem LeQ.need (s:QS) (w:Bs):LeQ s (WC w s):=by
 unfold WC;split
 ·exact .take s w
 ·exact (LeQ.take s w).trans (.wrong _ _ _ (by decide))
theorem LeQ.name (s:QS):LeQ s (WU s).2:=by
 unfold WU;split
 ·split
  ·exact .next s
  ·exact .refl s
 ·exact .wrong _ _ _ (by decide)
theorem LeQ.kind (s:QS):LeQ s (Xe s).2:=by
 unfold Xe;split
 ·exact .next s
 ·exact .refl s
theorem exM_stay {f:Nat}:(∀ k s e s',exM f k s=some (e,s')->s.code≠0->s'.code≠0)/\(∀ k e0 s e s',chM f k e0 s=some (e,s')->s.code≠0->s'.code≠0):=by
 induction f with
 | zero=>exact⟨fun k s e s' h=>(by rw[exM] at h;cases h),fun k e0 s e s' h=>(by rw[chM] at h;cases h)⟩
 | succ f ih=>
   obtain⟨ih1,ih2⟩:=ih;refine⟨fun k s e s' h hc=>?_,fun k e0 s e s' h hc=>?_⟩
   ·rw[exM] at h;split at h
    ·split at h
     ·cases h
     ·rename_i e1 s1 h1;exact ih2 _ _ _ _ _ h (ih1 _ _ _ _ h1 hc)
    ·rw[UP hc] at h;cases h;exact hc
   ·rw[chM] at h;by_cases hk:k=0
    ·rw[if_pos hk,if_neg hc] at h;cases h;exact hc
    ·rw[if_neg hk,if_neg (fun x=>hc x.1)] at h;cases h;exact hc
theorem LeQ.whole {f:Nat} {s s':QS} {e:Ex} (h:XJ f s=some (e,s')):LeQ s s':=by
 unfold XJ at h;rcases h0:exM f 0 s with _|⟨e0,s1⟩
 ·rw[h0] at h;cases h
 rw[h0] at h;obtain⟨_,rfl⟩:=Prod.mk.inj (Option.some.inj h);have h1:LeQ s s1:=⟨(exM_len f).1 _ _ _ _ h0,fun hc=>Classical.byContradiction fun hn=>exM_stay.1 _ _ _ _ h0 hn hc⟩
 split
 ·exact h1.trans (.wrong _ _ _ (by decide))
 ·exact h1
theorem QOk.whole {f:Nat} {s s':QS} {e:Ex} (hs:QOk s) (h:XJ f s=some (e,s')):QOk s':=by
 unfold XJ at h;rcases h0:exM f 0 s with _|⟨e0,s1⟩
 ·rw[h0] at h;cases h
 rw[h0] at h;obtain⟨_,rfl⟩:=Prod.mk.inj (Option.some.inj h);have h1:=(VT f).1 _ _ _ _ hs h0;split
 ·exact h1.wrong _ _
 ·exact h1
def Xb (c f:Nat) (s:QS):Prop:=s.code=0->s.l.length<=1000000/\4*s.l.length+c<=f
theorem Xb.le {c f:Nat} {s s':QS} (h:Xb c f s) (k:LeQ s s'):Xb c f s':=fun hc=>by
 have:=h (k.code hc);have:=k.len;exact⟨by omega,by omega⟩
def StmtQ (f:Nat):Prop:=∀ deep s x s',deep<=12->s.code=0->QOk s->Xb 9 f s->Vh f deep s=some (x,s')->∀ p:Id,ADet TC 76 [.ptr p 0,.int .i64 (deep:Nat)] [(p,qblk s)] (.ret (We x)) [(p,qblk s')]
def Wmz (f:Nat):Prop:=∀ deep s b s',deep<=13->QOk s->Xb 7 f s->Xn f deep s=some (b,s')->∀ p:Id,ADet TC 48 [.ptr p 0,.int .i64 (deep:Nat)] [(p,qblk s)] (.ret (.slice (Qr b))) [(p,qblk s')]
structure GoQ (s s':QS):Prop where
 ok:QOk s'
 le:LeQ s s'
theorem GoQ.trans {a b c:QS} (h:GoQ a b) (k:GoQ b c):GoQ a c:=⟨k.ok,h.le.trans k.le⟩
theorem QOk.Uv {s:QS} (h:QOk s) (w:Bs):GoQ s (WC w s):=⟨h.need w,.need s w⟩
theorem QOk.qF {s:QS} (h:QOk s) (w:Bs):GoQ s (QF w s).2:=⟨h.take w,.take s w⟩
theorem QOk.vf {s:QS} (h:QOk s):GoQ s (WU s).2:=⟨h.name,.name s⟩
theorem QOk.yV {s:QS} (h:QOk s):GoQ s (Xe s).2:=⟨h.kind,.kind s⟩
theorem QOk.UW {s:QS} (h:QOk s) (a b:Int) (hb:b≠0):GoQ s (s.wrong a b):=⟨h.wrong a b,.wrong s a b hb⟩
theorem QOk.jk {f:Nat} {s s':QS} {e:Ex} (hs:QOk s) (h:XJ f s=some (e,s')):GoQ s s':=⟨hs.whole h,.whole h⟩
theorem QOk.go0 {s:QS} (hs:QOk s):GoQ s s:=⟨hs,.refl s⟩
theorem Vv {f:Nat}:∀ (n:Nat) (c:Bool) (s s':QS) (xs:List Ex),QOk s->Xk f c n s=some (xs,s')->GoQ s s'/\xs.length=n
 | 0,c,s,s',xs,hs,h=>by rw[Xk] at h;cases h;exact⟨hs.go0,rfl⟩
 | n+1,c,s,s',xs,hs,h=>by
   rw[Xk] at h;have h0:GoQ s (if c=true then WC [44] s else s):=by
    split
    ·exact hs.Uv _
    ·exact hs.go0
   split at h
   ·cases h
   ·rename_i x s1 h1;split at h
    ·cases h
    ·rename_i ys s2 h2;cases h;have k1:=h0.trans (h0.ok.jk h1);obtain⟨k2,hlen⟩:=Vv n true _ _ _ k1.ok h2;exact⟨k1.trans k2,by simp[hlen]⟩
theorem ye {s:QS} (hs:QOk s):GoQ s (firstM s).2:=by
 unfold firstM;simp only;have k1:=hs.yV;have k2:GoQ s (if (Xe s).1≠0/\Wh (Xe s).1=true then (Xe s).2.wrong (hd (Xe s).2.l).place 9 else (Xe s).2):=by
  split
  ·exact k1.trans (k1.ok.UW _ _ (by decide))
  ·exact k1
 generalize (if (Xe s).1≠0/\Wh (Xe s).1=true then (Xe s).2.wrong (hd (Xe s).2.l).place 9 else (Xe s).2)=s2 at k2 ⊢;split
 ·have k3:=k2.trans k2.ok.vf;have k4:=k3.trans (k3.ok.Uv [61]);have k5:=k4.trans k4.ok.yV;simp only;split
  ·exact k5
  ·exact k5.trans (k5.ok.UW _ _ (by decide))
 ·exact k2
theorem jE {f k:Nat} {s s':QS} {r:Bs × Bool × List Ex} (hs:QOk s) (h:Zb f k s=some (r,s')):GoQ s s':=by
 unfold Zb at h;simp only at h;split at h
 ·have k1:=hs.vf;split at h
  ·split at h
   ·cases h
   ·rename_i x s1 h1;cases h;have k2:=k1.trans (k1.ok.qF [91]);have k3:=k2.trans (k2.ok.jk h1);exact k3.trans (k3.ok.Uv _)
  ·cases h;exact k1
 ·cases h;exact hs.go0
theorem Qzq {f:Nat} {s s':QS} {r:Int × Bs × Bs × Bool × List Ex} (hs:QOk s) (h:wc f s=some (r,s')):GoQ s s':=by
 unfold wc at h;have k1:=ye hs;generalize firstM s=x at h k1;obtain⟨⟨k,reg⟩,s1⟩:=x;simp only at h k1;split at h
 ·cases h
 ·rename_i name ix xs s2 h2;have k2:=k1.trans (jE k1.ok h2);split at h
  ·cases h
  ·rename_i ys s3 h3;cases h;exact k2.trans (Vv _ _ _ _ _ k2.ok h3).1
theorem jA:∀ f,(∀ d s b s',QOk s->Xn f d s=some (b,s')->GoQ s s')/\(∀ d s b s',QOk s->Ja f d s=some (b,s')->GoQ s s')/\(∀ d s x s',QOk s->Vh f d s=some (x,s')->GoQ s s')
 | 0=>⟨fun d s b s' _ h=>(by rw[Xn] at h;cases h),fun d s b s' _ h=>(by rw[Ja] at h;cases h),fun d s b s' _ h=>(by rw[Vh] at h;cases h)⟩
 | f+1=>by
   obtain⟨ihb,ihr,ihs⟩:=jA f;refine⟨fun d s b s' hs h=>?_,fun d s b s' hs h=>?_,fun d s x s' hs h=>?_⟩
   ·rw[Xn] at h;have k1:=hs.Uv [123];have k2:GoQ s (if 12<d then (WC [123] s).wrong (hd s.l).place 10 else WC [123] s):=by
     split
     ·exact k1.trans (k1.ok.UW _ _ (by decide))
     ·exact k1
    exact k2.trans (ihr _ _ _ _ k2.ok h)
   ·rw[Ja] at h;split at h
    ·split at h
     ·rename_i hb;cases h;exact⟨hs.next (QC hb),.next s⟩
     ·split at h
      ·cases h
      ·rename_i x s1 h1;have k1:=ihs _ _ _ _ hs h1;split at h
       ·cases h
       ·rename_i xs s2 h2;cases h;exact k1.trans (ihr _ _ _ _ k1.ok h2)
    ·cases h;exact hs.go0
   ·rw[Vh] at h;split at h
    ·cases h
    ·rename_i k reg name ix xs s1 h1;have k1:=Qzq hs h1;split at h
     ·cases h;exact k1.trans (k1.ok.Uv _)
     ·split at h
      ·cases h
      ·rename_i body s2 h2;have k2:=k1.trans (ihb _ _ _ _ k1.ok h2);split at h
       ·split at h
        ·cases h
        ·rename_i els s3 h3;cases h;have k3:=k2.trans (k2.ok.qF YW);exact k3.trans (ihb _ _ _ _ k3.ok h3)
       ·cases h;exact k2
theorem QPz {f deep:Nat} {s s':QS} {x:St} (hd:deep<=12) (hs:QOk s) (hf:Xb 9 f s) (h:Vh f deep s=some (x,s')) (h0:s'.code=0):s'.l.length+2<=s.l.length:=by
 have hc:=((jA f).2.2 _ _ _ _ hs h).le.code h0;obtain⟨hlen,hfu⟩:=hf hc;obtain⟨f',rfl⟩:∃ f',f=f' + 4:=⟨f - 4,by omega⟩
 obtain⟨l,pos,code⟩:=s;simp only at hc hlen hfu;subst hc;have hf:=(ze f').2.2 deep l pos hd hs.ql;rw[h] at hf;obtain⟨h1,_⟩:=hf.ok0 h0 ((yE f').2.2 deep l hs.tok (by omega));exact ((Yc f').2.2 _ _ _ _ hs.tok h1).2
theorem Wcz {f:Nat} {s s':QS} {r:Int × Bs × Bs × Bool × List Ex} (hs:QOk s) (hf:Xb 8 f s) (h:wc f s=some (r,s')) (h0:s'.code=0):s'.l.length+1<=s.l.length:=by
 have hc:=(Qzq hs h).le.code h0;obtain⟨hlen,hfu⟩:=hf hc;obtain⟨f',rfl⟩:∃ f',f=f' + 4:=⟨f - 4,by omega⟩
 obtain⟨l,pos,code⟩:=s;simp only at hc hlen hfu;subst hc;have hf:=zN (f:=f') (pos:=pos) hs.ql;rw[h] at hf;obtain⟨h1,_⟩:=hf.ok0 h0 (uV (l:=l) hs.tok (by omega));exact (ZC hs.tok h1).2
theorem QYq {w:Bs} {s:QS} (hs:QOk s) (h0:(WC w s).code=0):(WC w s).l.length+1<=s.l.length:=by
 have hc:=(LeQ.need s w).code h0;obtain⟨l,pos,code⟩:=s;simp only at hc;subst hc;rw[Yn] at h0 ⊢;rcases hm:QZ w l with e|⟨u,l2⟩
 ·rw[hm] at h0;have:=Yo hm;simp only at h0;omega
 ·exact (Wq hs.tok hm).2
def preM (out:List St):Option (List St × QS)->Option (List St × QS)
 | none=>none
 | some (b,s)=>some (out++b,s)
structure XBq where
 g:Nat
 out:List St
 s:QS
structure JBq (R:Option (List St × QS)) (f deep:Nat) (x:XBq):Prop where
 ok:QOk x.s
 g:x.g<=f
 dp:x.s.code=0->deep<=12
 fuel:Xb 10 x.g x.s
 res:R=preM x.out (Ja x.g deep x.s)
 len:x.s.code=0->x.out.length+x.s.l.length<=1000000
theorem block_q (f:Nat) (hst:∀ g,g<=f->StmtQ g):Wmz (f+1):=by
 intro deep s b s' hdeep hs hf h p;refine ADet.down (ex:=[1000013]) ?_;rw[Xn] at h;have hnx:=ADet.up (ex:=[1000013]) (Zf s hs.tok p);have hnd:=ADet.up (ex:=[1000013]) (VN s hs [123] p);have hs1:=hs.Uv [123];have hl1:=QYq (w:=[123]) hs;generalize hd s.l=t at hnx h;generalize WC [123] s=s1 at hnd hs1 hl1 h;have hwr:=ADet.up (ex:=[1000013]) (ZH s1 t.place 10 p);have hs2:GoQ s1 (if 12<deep then s1.wrong t.place 10 else s1):=by
  split
  ·exact hs1.ok.UW _ _ (by decide)
  ·exact hs1.ok.go0
 have hd2:(if 12<deep then s1.wrong t.place 10 else s1).code=0->deep<=12:=by
  split
  ·intro h0;unfold QS.wrong at h0;split at h0
   ·exact absurd h0 (by show ¬ (10:Int)=0;decide)
   ·rename_i hn;exact absurd h0 hn
  ·intro _;omega
 generalize hs2e:(if 12<deep then s1.wrong t.place 10 else s1)=s2 at h hs2 hd2;refine ent Tryz.func48 fun L K hL hR hN hP=>?_;simp;refine Qe.det hnx ?_ (by simp[Qa.keys]) (by decide) rfl (fun v hv=>?_) (fun v hv=>by cases hv)
 ·simp
 cases hv;simp[Qg];refine Qe.det hnd ?_ (by simp[Qa.keys]) (by decide) rfl (fun v hv=>?_) (fun v hv=>by cases hv)
 ·simp
 cases hv;simp;refine Yh (α:=Unit) (fun _=>True) (fun _=>[(0,.ptr p 0),(1,.int .i64 (deep:Nat))]) (fun _=>[(p,qblk s2)]) 0 ?_ ?_
 ·intro K1 hnext hex hrt hgo hpn;by_cases h12:12<deep
  ·rw[if_pos h12] at hs2e;have hb:decide ((12:Int)<((deep:Nat):Int))=true:=decide_eq_true (by omega);simp[hb];refine Qe.det hwr ?_ (by simp[Qa.keys]) (by decide) rfl (fun v hv=>?_) (fun v hv=>by cases hv)
   ·simp
   cases hv;rw[hs2e];simp;exact hnext _ () trivial (Qi (by simp) (by simp) (by simp) (by simp))
  ·rw[if_neg h12] at hs2e;have hb:decide ((12:Int)<((deep:Nat):Int))=false:=decide_eq_false (by omega);simp[hb,hs2e];exact hnext _ () trivial (Qi (by simp) (by simp) (by simp) (by simp))
 ·rintro⟨⟩ -;have hpL:p.1<L:=hL p (by simp[Qa.keys]);have ne1:¬ (L,0)=p:=fun e=>by rw[<- e] at hpL;exact Nat.lt_irrefl _ hpL
  have ne2:¬ p=(L,0):=fun e=>ne1 e.symm;have hle:LeQ s s2:=hs1.le.trans hs2.le;have hfu:Xb 10 f s2:=fun h0=>by
   have a1:=hs2.le.code h0;have a2:=hl1 a1;have a3:=hf (hle.code h0);have a4:=hs2.le.len;exact⟨by omega,by omega⟩
  simp;refine Qw (WM (t:=6) (el:=56) (sz:=8) (by simp) (by decide)) ?_;refine QB (α:=XBq) (JBq (some (b,s')) f deep) (fun x=>[(0,.ptr p 0),(1,.int .i64 (deep:Nat)),(6,.vec (L,0) x.out.length)]) (fun x=>[((L,0),.vec 56 8 (x.out.map We) x.out.length true),(p,qblk x.s)]) (fun x=>x.g) ⟨f,[],s2⟩ ⟨hs2.ok,Nat.le_refl _,hd2,hfu,by rw[<- h];simp only[preM];cases Ja f deep s2<;>rfl,fun h0=>by have:=(hfu h0).1;simpa using this⟩ (twk (hn:=by simp[ne1])) ?_;rintro⟨g,out,⟨l,pos,code⟩⟩ L1 K1 ⟨hok,hgf,hdp,hfg,hres,hln⟩ hL1 - hnext hex hrt - hpn;simp only at hok hgf hdp hfg hres hln;have hLL:L<L1:=hL1;cases g with
  | zero=>rw[Ja] at hres;cases hres
  | succ g=>
  rw[Ja] at hres;have fin:∀ (s3:QS),some (b,s')=some (out,s3)->∀ s4:ASt,Qf TC.P s4 [.tmp 4]=some [.vec (L,0) out.length]->((L,0),Blk.vec 56 8 (out.map We) out.length true)∈s4.σ->(p,qblk s3)∈s4.σ->K .ret s4:=fun s3 he s4 h1 h2 h3=>by
   cases he;refine hR s4 (.keep [((L,0),.vec 56 8 (b.map We) b.length true)] [(p,qblk s')] h1 (by simpa using h3) (by simpa using h2) (by simp[Qa.keys]) (by simp[Qa.keys,ne2]) (v':=.slice (Qr b)) ?_ ⟨rfl,rfl⟩);rw[WG];exact .vec (t:=56) (s:=8) (es:=b.map We) (wr:=true) (by simp) (Qn _)
  simp[qblk,ne1];by_cases hc:code=0
  ·have hcb:(code == 0)=true:=by simp[hc]
   rw[if_pos hc] at hres;simp[hcb];refine Qe.det (ADet.up (Zt ⟨l,pos,code⟩ hok.tok [125] p)) ?_ (by simp[Qa.keys]) (by decide) rfl (fun v hv=>?_) (fun v hv=>by cases hv)
   ·simp[qblk]
   cases hv;rcases hb:(hd l).isB [125]
   ·have htm:QF [125] ⟨l,pos,code⟩=(false,⟨l,pos,code⟩):=by unfold QF;rw[if_neg (fun x=>by rw[hb] at x;exact Bool.noConfusion x.2)]
    have hres:some (b,s')=preM out (match Vh g deep ⟨l,pos,code⟩ with|none=>none|some (x,s)=>match Ja g deep s with|none=>none|some (xs,s)=>some (x::xs,s)):=by
     rw[hres];simp only[hb]<;>rfl
    rcases h1:Vh g deep ⟨l,pos,code⟩ with _|⟨x,s3⟩
    ·rw[h1] at hres;cases hres
    rw[h1] at hres;have hfg9:Xb 9 g ⟨l,pos,code⟩:=fun h0=>by have:=hfg h0;exact⟨this.1,by omega⟩
    have hcall:=ADet.up (ex:=[1000013]) (hst g (by omega) deep ⟨l,pos,code⟩ x s3 (hdp hc) hc hok hfg9 h1 p);have hgo:=(jA g).2.2 _ _ _ _ hok h1;have hleft:=QPz (hdp hc) hok hfg9 h1;rw[htm];simp[ne1];refine Qe.det hcall ?_ (by simp[Qa.keys]) (by decide) rfl (fun v hv=>?_) (fun v hv=>by cases hv)
    ·simp
    cases hv;have hln':=hln hc;have c1:out.length<=9223372036854775806:=by omega
    have c2:(out.length+1)*128<=140737488355328:=by omega
    obtain⟨sa,sb,sc,sd,se,sf,sg,sh⟩:=x;simp[ne1,ne2,We,c1,c2];refine hnext _ ⟨g,out++[.mk sa sb sc sd se sf sg sh],s3⟩ ⟨hgo.ok,by simp only;omega,fun _=>hdp hc,fun h0=>?_,?_,fun h0=>?_⟩ (by simp) (Qb (by simp) (by simp[We]) (by simp[ne1]))
    ·have a1:=hleft h0;have a2:=hfg hc;simp only at a1 a2;exact⟨by simp only;omega,by simp only;omega⟩
    ·rw[hres];simp only;rcases Ja g deep s3 with _|⟨ys,s4⟩
     ·rfl
     ·simp[preM]
    ·have a1:=hleft h0;simp only at a1;simp;omega
   ·have htm:QF [125] ⟨l,pos,code⟩=(true,(⟨l,pos,code⟩:QS).next):=by unfold QF;rw[if_pos ⟨hc,hb⟩]
    have hres:some (b,s')=some (out,(⟨l,pos,code⟩:QS).next):=by
     rw[hres];simp only[hb];simp[preM]
    rw[htm];simp[ne1];refine hex _ _ ?_;simp;exact fin _ hres _ (by simp[Qf,Qj]) (by simp) (by simp)
  ·have hcb:(code == 0)=false:=by simp[hc]
   rw[if_neg hc] at hres;have hres:some (b,s')=some (out,⟨l,pos,code⟩):=by rw[hres];simp[preM]
   simp[hcb];refine hex _ _ ?_;simp;exact fin _ hres _ (by simp[Qf,Qj]) (by simp) (by simp[qblk])
theorem number_q (s:QS) (hs:QOk s):AQ 49 [] s (Qu (YA s).1) (YA s).2:=by
 intro p;refine ADet.down (ex:=[1000011]) ?_;have hz0:fz 0=0:=WZ;have f0:QV 0:=by unfold QV;simp
 have fne:∀ n:Int,n.natAbs<=1048576->(FloatKind.f64.format.order (fz n) 0 != some Ordering.eq)=decide (n≠0):=fun n h=>by
  have:=QBq (QD h) f0
  rwa [hz0] at this
 have feq:∀ n:Int,n.natAbs<=1048576->(FloatKind.f64.format.order (fz n) 0 == some Ordering.eq)=decide (n=0):=fun n h=>by
  have:=uX (QD h) f0
  rwa [hz0] at this
 have fs1:∀ n:Int,n.natAbs<=1048576->floatBits .sub .f64 0 (fz n)=some (fz (0 - n)):=fun n h=>by
  have:=yY f0 (QD h);rw[hz0] at this;exact this
 have h1:=ADet.up (ex:=[1000011]) (Zt s hs.tok [45] p);have hs1:=hs.take [45];rw[VL];generalize QF [45] s=x1 at h1 hs1 ⊢;obtain⟨m,s1⟩:=x1;simp only at h1 hs1 ⊢;have h2:=ADet.up (ex:=[1000011]) (wt s1 hs1 p);obtain⟨hs2,hn⟩:=hs1.figure;generalize Wi s1=x2 at h2 hs2 hn ⊢;obtain⟨c0,s2⟩:=x2;simp only at h2 hs2 hn ⊢;have g1:=fs1 c0.re hn.1;have g2:=fs1 c0.im hn.2.1;refine ent Tryz.func49 fun L K hL hR hN hP=>?_;simp;refine Qe.det h1 ?_ (by simp[Qa.keys]) (by decide) rfl (fun v hv=>?_) (fun v hv=>by cases hv)
 ·simp
 cases hv;simp;refine Qe.det h2 ?_ (by simp[Qa.keys]) (by decide) rfl (fun v hv=>?_) (fun v hv=>by cases hv)
 ·simp
 cases hv;simp;have hsm:(if m=true then (⟨0 - c0.re,0 - c0.im⟩:Cx) else c0).re.natAbs<=1048576/\(if m=true then (⟨0 - c0.re,0 - c0.im⟩:Cx) else c0).im.natAbs<=1048576:=by
  have:=hn.1;have:=hn.2.1;cases m
  ·simp;omega
  ·simp;omega
 have hcc:(if m=true then (⟨0 - c0.re,0 - c0.im⟩:Cx) else c0)=(if m=true then (⟨0 - c0.re,0 - c0.im⟩:Cx) else c0):=rfl;generalize hceq:(if m=true then (⟨0 - c0.re,0 - c0.im⟩:Cx) else c0)=c at hsm hR;refine Yh (α:=Unit) (fun _=>True) (fun _=>[(0,.ptr p 0),(3,.bool m),(4,Qu c)]) (fun _=>[(p,qblk s2)]) 0 ?_ ?_
 ·intro K1 hnext hex hrt hgo hpn;cases m
  ·have hc:c0=c:=by simpa using hceq
   subst hc;simp;exact hnext _ () trivial (Qi (by simp) (by simp) (by simp) (by simp))
  ·have hc:c=⟨0 - c0.re,0 - c0.im⟩:=by simpa using hceq.symm
   subst hc;simp[Qu,g1,g2];exact hnext _ () trivial (Qi (by simp) (by simp[Qu]) (by simp) (by simp))
 ·rintro⟨⟩ -;obtain⟨l2,p2,c2⟩:=s2;have g3:=fne c.im hsm.2;have fin:∀ (z:Cx) (s3:QS),YN c ⟨l2,p2,c2⟩=(z,s3)->∀ s4:ASt,Qf TC.P s4 [.tmp 2]=some [Qu z]->(p,qblk s3)∈s4.σ->K .ret s4:=fun z s3 he s4 h1 h2=>by
   rw[he] at hR;exact hR s4 (.keep [] [(p,qblk s3)] h1 (by simpa using h2) (by simp) (by simp[Qa.keys]) (by simp[Qa.keys]) (.refl _) ⟨rfl,rfl⟩)
  have sec:c.im=0->c2=0->YN c ⟨l2,p2,c2⟩=(match QF [45] ⟨l2,p2,c2⟩ with
   | (m2,s3)=>match (if m2 then (true,s3) else QF [43] s3) with
     | (q,s4)=>if q=false then (c,s4) else
       match Wi s4 with
       | (d,s5)=>(⟨c.re,if m2 then 0 - d.im else d.im⟩,if d.im=0 then s5.wrong (hd s4.l).place 1 else s5)):=fun h1 h2=>by
   unfold YN;rw[if_neg (fun x=>x.elim (fun y=>y h1) (fun y=>y h2))]
  simp[Qu,g3];by_cases him:c.im=0
  ·simp[him,qblk];by_cases hc:c2=0
   ·have hcb:(c2 != 0)=false:=by simp[hc]
    have sec:=sec him hc;have h3:=ADet.up (ex:=[1000011]) (Zt ⟨l2,p2,c2⟩ hs2.tok [45] p);have hs3:=hs2.take [45];generalize QF [45] ⟨l2,p2,c2⟩=x3 at h3 hs3 sec;obtain⟨m2,s3⟩:=x3;simp only at h3 hs3 sec;simp[hcb];refine Qe.det h3 ?_ (by simp[Qa.keys]) (by decide) rfl (fun v hv=>?_) (fun v hv=>by cases hv)
    ·simp[qblk]
    cases hv;cases m2
    ·simp only[if_neg Bool.false_ne_true] at sec;have h4:=ADet.up (ex:=[1000011]) (Zt s3 hs3.tok [43] p);have hs4:=hs3.take [43];generalize QF [43] s3=x4 at h4 hs4 sec;obtain⟨q,s4⟩:=x4;simp only at h4 hs4 sec;simp;refine Qe.det h4 ?_ (by simp[Qa.keys]) (by decide) rfl (fun v hv=>?_) (fun v hv=>by cases hv)
     ·simp
     cases hv;cases q
     ·rw[if_pos rfl] at sec;simp;exact fin _ _ sec _ (by simp[Qf,Qj,Qu,him]) (by simp)
     ·rw[if_neg (by simp)] at sec;simp;have hnx:=ADet.up (ex:=[1000011]) (Zf s4 hs4.tok p);have h5:=ADet.up (ex:=[1000011]) (wt s4 hs4 p);obtain⟨hs5,hd5⟩:=hs4.figure;generalize Wi s4=x5 at h5 hs5 hd5 sec;obtain⟨d,s5⟩:=x5;simp only at h5 hs5 hd5 sec;have hwr:=ADet.up (ex:=[1000011]) (ZH s5 (hd s4.l).place 1 p);generalize hd s4.l=t at hnx hwr sec;have gd:=feq d.im hd5.2.1;have gd1:=fs1 d.im hd5.2.1;refine Qe.det hnx ?_ (by simp[Qa.keys]) (by decide) rfl (fun v hv=>?_) (fun v hv=>by cases hv)
      ·simp
      cases hv;simp[Qg];refine Qe.det h5 ?_ (by simp[Qa.keys]) (by decide) rfl (fun v hv=>?_) (fun v hv=>by cases hv)
      ·simp
      cases hv;simp[Qu,gd];by_cases hdi:d.im=0
      ·rw[if_pos hdi] at sec;simp[hdi];refine Qe.det hwr ?_ (by simp[Qa.keys]) (by decide) rfl (fun v hv=>?_) (fun v hv=>by cases hv)
       ·simp
       cases hv;rw[hdi] at gd1 sec;simp[hz0] at gd1;simp[hz0];exact fin _ _ sec _ (by simp[Qf,Qj,Qu,hz0]) (by simp)
      ·rw[if_neg hdi] at sec;simp[hdi];exact fin _ _ sec _ (by simp[Qf,Qj,Qu]) (by simp)
    ·simp only[if_pos] at sec;rw[if_neg (by simp)] at sec;simp;obtain⟨s4,hs4e⟩:∃ s4,s4=s3:=⟨_,rfl⟩
     have hs4:QOk s4:=hs4e▸hs3;rw[<- hs4e] at sec ⊢;have hnx:=ADet.up (ex:=[1000011]) (Zf s4 hs4.tok p);have h5:=ADet.up (ex:=[1000011]) (wt s4 hs4 p);obtain⟨hs5,hd5⟩:=hs4.figure;generalize Wi s4=x5 at h5 hs5 hd5 sec;obtain⟨d,s5⟩:=x5;simp only at h5 hs5 hd5 sec;have hwr:=ADet.up (ex:=[1000011]) (ZH s5 (hd s4.l).place 1 p);generalize hd s4.l=t at hnx hwr sec;have gd:=feq d.im hd5.2.1;have gd1:=fs1 d.im hd5.2.1;refine Qe.det hnx ?_ (by simp[Qa.keys]) (by decide) rfl (fun v hv=>?_) (fun v hv=>by cases hv)
     ·simp
     cases hv;simp[Qg];refine Qe.det h5 ?_ (by simp[Qa.keys]) (by decide) rfl (fun v hv=>?_) (fun v hv=>by cases hv)
     ·simp
     cases hv;simp[Qu,gd];by_cases hdi:d.im=0
     ·rw[if_pos hdi] at sec;simp[hdi];refine Qe.det hwr ?_ (by simp[Qa.keys]) (by decide) rfl (fun v hv=>?_) (fun v hv=>by cases hv)
      ·simp
      cases hv;rw[hdi] at gd1 sec;simp[hz0] at gd1;simp[hz0,gd1];exact fin _ _ sec _ (by simp[Qf,Qj,Qu,hz0]) (by simp)
     ·rw[if_neg hdi] at sec;simp[hdi,gd1];exact fin _ _ sec _ (by simp[Qf,Qj,Qu]) (by simp)
   ·have hcb:(c2 != 0)=true:=by simp[hc]
    simp[hcb];exact fin c ⟨l2,p2,c2⟩ (by unfold YN;rw[if_pos (.inr hc)]) _ (by simp[Qf,Qj,Qu,him]) (by simp[qblk])
  ·simp[him];exact fin c ⟨l2,p2,c2⟩ (by unfold YN;rw[if_pos (.inl him)]) _ (by simp[Qf,Qj,Qu]) (by simp)
end Go.Awp.R1
