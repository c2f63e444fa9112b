/- The statements' own parser: statements. -/
import Derived.Test.YtnielafbkgpgjaaGreatDoorX30
set_option linter.all false
set_option maxRecDepth 100000
set_option maxHeartbeats 8000000
namespace Go.Awp.R1
open Go Go.Awp Go.Proofs Go.Awp.Sp
def Wdw:List Int:=[0,1,3,4,5,8]
theorem Wdq {k:Nat} (h:k<17):Wdw.contains (k:Int)=Wh k:=by
 rcases nat17 h with rfl|rfl|rfl|rfl|rfl|rfl|rfl|rfl|rfl|rfl|rfl|rfl|rfl|rfl|rfl|rfl|rfl<;>rfl
theorem qX (s:QS):(Xe s).1<17:=by
 unfold Xe;split
 ·exact wZ _
 ·exact Nat.le_of_ble_eq_true rfl
structure Hid (p:Prop):Prop where
 it:p
theorem QZq {a b G r:Prop} (h:a∨b) (ha:a->Hid G->r) (hb:b->Hid G->r) (hm:G):r:=h.elim (fun x=>ha x ⟨hm⟩) fun x=>hb x ⟨hm⟩
theorem merge3 {a b c G r:Prop} (h:a∨b∨c) (ha:a->Hid G->r) (hb:b->Hid G->r) (hc:c->Hid G->r) (hm:G):r:=or3 h (fun x=>ha x ⟨hm⟩) (fun x=>hb x ⟨hm⟩) fun x=>hc x ⟨hm⟩
theorem firstM_lt (s:QS):(firstM s).1.1<17:=by
 unfold firstM;simp only;split
 ·exact qX _
 ·exact qX _
def preEM (out:List Ex):Option (List Ex × QS)->Option (List Ex × QS)
 | none=>none
 | some (b,s)=>some (out++b,s)
structure Y4 where
 i:Nat
 es:List Ex
 s:QS
structure J4 (R:Option (List Ex × QS)) (f n:Nat) (named:Bool) (x:Y4):Prop where
 ok:QOk x.s
 i:x.i<=n
 len:x.es.length=x.i
 fuel:Xb 8 f x.s
 res:R=preEM x.es (Xk f (named||decide (0<x.i)) (n - x.i) x.s)
theorem stmt_q (f:Nat) (hbl:Wmz f):StmtQ (f+1):=by
 intro deep s x s' hdeep hc hs hf h p;refine ADet.down (ex:=[18,25,1000023,1000030,1000055]) ?_;rw[Vh] at h;rcases hh:wc f s with _|⟨⟨k',reg',name',ix',xs'⟩,s1'⟩
 ·rw[hh] at h;cases h
 have hf8:Xb 8 f s:=fun h0=>by have:=hf h0;exact⟨this.1,by omega⟩
 have hleft:=Wcz hs hf8 hh;rw[hh] at h;simp only at h;unfold wc at hh;have hA:=ye hs;have hklt:=firstM_lt s;have hkq:=ADet.up (ex:=[18,25,1000023,1000030,1000055]) (kind_q s hs p);have hkgo:=hs.yV;have hk0lt:=qX s;rcases h1:firstM s with⟨⟨k,reg⟩,sA⟩
 rw[h1] at hh hA hklt;simp only at hh hA hklt;rcases h2:Zb f k sA with _|⟨⟨name,ix,xs⟩,sB⟩
 ·rw[h2] at hh;cases hh
 rw[h2] at hh;simp only at hh;rcases h3:Xk f (Qz k) (QR k) sB with _|⟨ys,sC⟩
 ·rw[h3] at hh;cases hh
 rw[h3] at hh;obtain⟨hhe,hh1⟩:=Prod.mk.inj (Option.some.inj hh);obtain⟨e1,hhe⟩:=Prod.mk.inj hhe;obtain⟨e2,hhe⟩:=Prod.mk.inj hhe;obtain⟨e3,hhe⟩:=Prod.mk.inj hhe;obtain⟨e4,e5⟩:=Prod.mk.inj hhe;subst e1;subst e2;subst e3;subst e4;subst e5;subst hh1;have hB:=hA.trans (jE hA.ok h2);have hC:=hB.trans (Vv _ _ _ _ _ hB.ok h3).1;have hylen:=(Vv _ _ _ _ _ hB.ok h3).2;have hxlen:xs.length<=1:=by
  unfold Zb at h2;simp only at h2;split at h2
  ·split at h2
   ·split at h2
    ·cases h2
    ·cases h2;simp
   ·cases h2;simp
  ·cases h2;simp
 unfold firstM at h1;have hnx:=ADet.up (ex:=[18,25,1000023,1000030,1000055]) (Zf s hs.tok p);generalize Xe s=kk at h1 hkq hkgo hk0lt;obtain⟨k0,s0⟩:=kk;simp only at h1 hkq hkgo hk0lt;generalize hd s.l=t at hnx h;have hnx0:=ADet.up (ex:=[18,25,1000023,1000030,1000055]) (Zf s0 hkgo.ok.tok p);have hwr0:=ADet.up (ex:=[18,25,1000023,1000030,1000055]) (ZH s0 (hd s0.l).place 9 p);have h20:GoQ s0 (if k0≠0/\Wh k0=true then s0.wrong (hd s0.l).place 9 else s0):=by
  split
  ·exact hkgo.ok.UW _ _ (by decide)
  ·exact hkgo.ok.go0
 generalize hs2e:(if k0≠0/\Wh k0=true then s0.wrong (hd s0.l).place 9 else s0)=s2 at h1 h20;generalize hd s0.l=t0 at hnx0 hwr0 hs2e;obtain⟨gl,hgl,hgle⟩:∃ gl,[V.int .i64 0,V.int .i64 1,V.int .i64 3,V.int .i64 4,V.int .i64 5,V.int .i64 8]=gl/\gl=Wdw.map (V.int .i64):=⟨_,rfl,rfl⟩
 have hcont:∀ k:Nat,k<17->Ql (TCe [18,25,1000023,1000030,1000055]) 117 [.slice gl,.int .i64 k] (.bool (Wh k)):=fun k hk=>by
  have:=ContI_ok Wdw (k:Int) (by decide);rw[Wdq hk,<- hgle] at this;exact this.up
 refine ent Tryz.func76 fun L K hL hR hN hP=>?_;have hpL:p.1<L:=hL p (by simp[Qa.keys]);have ne1:¬ (L,0)=p:=fun e=>by rw[<- e] at hpL;exact Nat.lt_irrefl _ hpL
 have ne2:¬ p=(L,0):=fun e=>ne1 e.symm;have q1:¬ (L,1)=p:=fun e=>by rw[<- e] at hpL;exact Nat.lt_irrefl _ hpL
 have q2:¬ p=(L,1):=fun e=>q1 e.symm;have u1:¬ (L,2)=p:=fun e=>by rw[<- e] at hpL;exact Nat.lt_irrefl _ hpL
 have u2:¬ p=(L,2):=fun e=>u1 e.symm;simp;refine Qe.det hnx ?_ (by simp[Qa.keys]) (by decide) rfl (fun v hv=>?_) (fun v hv=>by cases hv)
 ·simp
 cases hv;simp[Qg,ne1];refine Qe.det hkq ?_ (by simp[Qa.keys]) (by decide) rfl (fun v hv=>?_) (fun v hv=>by cases hv)
 ·simp
 cases hv;obtain⟨b23,hb23⟩:∃ b23,b23=(decide (k0≠0)&&Wh k0):=⟨_,rfl⟩
 apply QZq (Nat.eq_zero_or_pos k0)
 case ha=>
  intro h00 hG;have hi:¬ 0<k0:=by omega
  have hb:b23=false:=by rw[hb23,h00]<;>rfl
  simp[hi,hgl,ne1,q1];refine Qw (Qi (m:=2) (τ':=[(0,.ptr p 0),(1,.int .i64 (deep:Nat)),(4,.ptr (L,0) 0),(5,.ptr (L,1) 0),(6,.int .i64 (k0:Nat)),(7,.slice gl),(23,.bool b23)]) (σ':=[((L,1),.cells 56 (QA 0 [] [] false .snil t.place)),((L,0),.cells 56 st0),(p,qblk s0)]) (by simp) (by simp[hb]) (by simp[QA,st0,ne1,ne2,q1,q2]) (by simp[ne1,q1])) ?_;exact hG.it
 case hb=>
  intro h00 hG;have hb:b23=Wh k0:=by rw[hb23];simp;omega
  simp[h00,hgl,ne1,q1];refine Qc (hcont k0 hk0lt) ?_;simp;refine Qw (Qi (m:=2) (τ':=[(0,.ptr p 0),(1,.int .i64 (deep:Nat)),(4,.ptr (L,0) 0),(5,.ptr (L,1) 0),(6,.int .i64 (k0:Nat)),(7,.slice gl),(23,.bool b23)]) (σ':=[((L,1),.cells 56 (QA 0 [] [] false .snil t.place)),((L,0),.cells 56 st0),(p,qblk s0)]) (by simp) (by simp[hb]) (by simp[QA,st0,ne1,ne2,q1,q2]) (by simp[ne1,q1])) ?_;exact hG.it
 case hm=>
 refine Yh (α:=Unit) (fun _=>True) (fun _=>[(0,.ptr p 0),(1,.int .i64 (deep:Nat)),(4,.ptr (L,0) 0),(5,.ptr (L,1) 0),(6,.int .i64 (k0:Nat)),(7,.slice gl)]) (fun _=>[((L,1),.cells 56 (QA 0 [] [] false .snil t.place)),((L,0),.cells 56 st0),(p,qblk s2)]) 2 ?_ ?_
 ·intro K1 hnext hex hrt hgo hpn;cases b23
  ·have hno:¬ (k0≠0/\Wh k0=true):=fun x=>by simp[x.1,x.2] at hb23
   rw[if_neg hno] at hs2e;subst hs2e;simp;exact hnext _ () trivial (Qi (by simp) (by simp) (by simp) (by simp))
  ·have hyes:k0≠0/\Wh k0=true:=by simpa using hb23.symm
   rw[if_pos hyes] at hs2e;simp[QA];refine Qe.det hnx0 ?_ (by simp[Qa.keys]) (by decide) rfl (fun v hv=>?_) (fun v hv=>by cases hv)
   ·simp
   cases hv;simp[Qg,ne1,q1];refine Qe.det hwr0 ?_ (by simp[Qa.keys]) (by decide) rfl (fun v hv=>?_) (fun v hv=>by cases hv)
   ·simp
   cases hv;rw[hs2e];simp[ne1,q1];exact hnext _ () trivial (Qi (by simp) (by simp) (by simp[QA,ne1,ne2,q1,q2]) (by simp[ne1,q1]))
 rintro⟨⟩ -;have hs2:=hkgo.trans h20;simp;refine Yh (α:=Unit) (fun _=>True) (fun _=>[(0,.ptr p 0),(1,.int .i64 (deep:Nat)),(4,.ptr (L,0) 0),(5,.ptr (L,1) 0),(6,.int .i64 (k:Nat))]) (fun _=>[((L,1),.cells 56 (QA 0 reg [] false .snil t.place)),((L,0),.cells 56 st0),(p,qblk sA)]) 2 ?_ ?_
 ·intro K1 hnext hex hrt hgo hpn;by_cases h00:k0=0
  ·rw[if_pos h00] at h1;have hkb:((k0:Int) == 0)=true:=by simp[h00]
   have hnm:=ADet.up (ex:=[18,25,1000023,1000030,1000055]) (jP s2 hs2.ok p);have hsn:=hs2.ok.vf;generalize WU s2=rn at h1 hnm hsn;obtain⟨nm,s3⟩:=rn;simp only at h1 hnm hsn;have hnd:=ADet.up (ex:=[18,25,1000023,1000030,1000055]) (VN s3 hsn.ok [61] p);have hsd:=hsn.ok.Uv [61];generalize WC [61] s3=s4 at h1 hnd hsd;have hk2:=ADet.up (ex:=[18,25,1000023,1000030,1000055]) (kind_q s4 hsd.ok p);have hsk:=hsd.ok.yV;have hk2lt:=qX s4;generalize Xe s4=rk at h1 hk2 hsk hk2lt;obtain⟨k2,s5⟩:=rk;simp only at h1 hk2 hsk hk2lt;have hnx5:=ADet.up (ex:=[18,25,1000023,1000030,1000055]) (Zf s5 hsk.ok.tok p);have hwr5:=ADet.up (ex:=[18,25,1000023,1000030,1000055]) (ZH s5 (hd s5.l).place 9 p);generalize hd s5.l=t5 at hnx5 hwr5 h1;obtain⟨h1a,h1b⟩:=Prod.mk.inj h1;obtain⟨rfl,rfl⟩:=Prod.mk.inj h1a;simp[hkb];refine Qe.det hnm ?_ (by simp[Qa.keys]) (by decide) rfl (fun v hv=>?_) (fun v hv=>by cases hv)
   ·simp
   cases hv;simp[QA,ne1,q1,q2];refine Qe.det hnd ?_ (by simp[Qa.keys]) (by decide) rfl (fun v hv=>?_) (fun v hv=>by cases hv)
   ·simp
   cases hv;simp[ne1,q1];refine Qe.det hk2 ?_ (by simp[Qa.keys]) (by decide) rfl (fun v hv=>?_) (fun v hv=>by cases hv)
   ·simp
   cases hv;simp[ne1,q1];refine Qc (hcont _ hk2lt) ?_;rcases hg:Wh k2
   ·rw[hg,if_neg (by simp)] at h1b;simp;refine Qe.det hnx5 ?_ (by simp[Qa.keys]) (by decide) rfl (fun v hv=>?_) (fun v hv=>by cases hv)
    ·simp
    cases hv;simp[Qg,ne1,q1];refine Qe.det hwr5 ?_ (by simp[Qa.keys]) (by decide) rfl (fun v hv=>?_) (fun v hv=>by cases hv)
    ·simp
    cases hv;rw[h1b];simp[ne1,q1];exact hnext _ () trivial (Qi (by simp) (by simp) (by simp[QA,st0,ne1,ne2,q1,q2]) (by simp[ne1,q1]))
   ·rw[hg,if_pos rfl] at h1b;subst h1b;simp;exact hnext _ () trivial (Qi (by simp) (by simp) (by simp[QA,st0,ne1,ne2,q1,q2]) (by simp[ne1,q1]))
  ·rw[if_neg h00] at h1;have hkb:((k0:Int) == 0)=false:=by simp;omega
   obtain⟨h1a,rfl⟩:=Prod.mk.inj h1;obtain⟨rfl,rfl⟩:=Prod.mk.inj h1a;simp[hkb];exact hnext _ () trivial (Qi (by simp) (by simp) (by simp[QA,st0]) (by simp[ne1,q1]))
 rintro⟨⟩ -;apply merge3 (a:=k=0) (b:=1<=k/\k<=12) (c:=13<=k) (by omega)
 case ha=>
  intro h00 hG;have hd1:decide ((1:Int)<=(k:Int))=false:=decide_eq_false (by omega);have hn:Qz k=false:=by unfold Qz;simp;omega
  simp[QA,hd1];refine Qw (Qi (m:=2) (τ':=[(0,.ptr p 0),(1,.int .i64 (deep:Nat)),(4,.ptr (L,0) 0),(5,.ptr (L,1) 0),(6,.int .i64 (k:Nat)),(8,.bool (Qz k)),(55,.bool (Qz k))]) (σ':=[((L,1),.cells 56 (QA k reg [] false .snil t.place)),((L,0),.cells 56 st0),(p,qblk sA)]) (by simp) (by simp[hn]) (by simp[QA,st0]) (by simp[ne1,q1])) ?_;exact hG.it
 case hb=>
  intro h00 hG;have hd1:decide ((1:Int)<=(k:Int))=true:=decide_eq_true (by omega);have hd2:decide ((k:Int)<=12)=true:=decide_eq_true (by omega);have hn:Qz k=true:=by unfold Qz;simp;omega
  simp[QA,hd1,hd2];refine Qw (Qi (m:=2) (τ':=[(0,.ptr p 0),(1,.int .i64 (deep:Nat)),(4,.ptr (L,0) 0),(5,.ptr (L,1) 0),(6,.int .i64 (k:Nat)),(8,.bool (Qz k)),(55,.bool (Qz k))]) (σ':=[((L,1),.cells 56 (QA k reg [] false .snil t.place)),((L,0),.cells 56 st0),(p,qblk sA)]) (by simp) (by simp[hn]) (by simp[QA,st0]) (by simp[ne1,q1])) ?_;exact hG.it
 case hc=>
  intro h00 hG;have hd1:decide ((1:Int)<=(k:Int))=true:=decide_eq_true (by omega);have hd2:decide ((k:Int)<=12)=false:=decide_eq_false (by omega);have hn:Qz k=false:=by unfold Qz;simp;omega
  simp[QA,hd1,hd2];refine Qw (Qi (m:=2) (τ':=[(0,.ptr p 0),(1,.int .i64 (deep:Nat)),(4,.ptr (L,0) 0),(5,.ptr (L,1) 0),(6,.int .i64 (k:Nat)),(8,.bool (Qz k)),(55,.bool (Qz k))]) (σ':=[((L,1),.cells 56 (QA k reg [] false .snil t.place)),((L,0),.cells 56 st0),(p,qblk sA)]) (by simp) (by simp[hn]) (by simp[QA,st0]) (by simp[ne1,q1])) ?_;exact hG.it
 case hm=>
 refine Qw (Xf (id:=(L,1)) (o:=4) (el:=192) (sz:=4) (by simp[Qa.get];exact⟨rfl,rfl⟩) rfl (by decide)) ?_;have hfA:Xb 8 f sA:=hf8.le hA.le;have hfB:Xb 8 f sB:=hf8.le hB.le;refine Yh (α:=Unit) (fun _=>True) (fun _=>[(0,.ptr p 0),(1,.int .i64 (deep:Nat)),(4,.ptr (L,0) 0),(5,.ptr (L,1) 0),(6,.int .i64 (k:Nat)),(8,.bool (Qz k))]) (fun _=>[((L,2),.vec 192 4 (xs.map Qh) xs.length true),((L,1),.cells 56 (QA k reg name ix (.vec (L,2) xs.length) t.place)),((L,0),.cells 56 st0),(p,qblk sB)]) 3 ?_ ?_
 ·intro K1 hnext hex hrt hgo hpn;unfold Zb at h2;rcases hnd:Qz k
  ·rw[hnd,if_neg (by simp)] at h2;cases h2;simp[QA];exact hnext _ () trivial (Qi (by simp) (by simp[hnd]) (by simp[QA]) (by simp[ne1,q1,u1]))
  ·rw[hnd,if_pos rfl] at h2;have hk12:1<=k/\k<=12:=by unfold Qz at hnd;simp at hnd;omega
   have hnm:=ADet.up (ex:=[18,25,1000023,1000030,1000055]) (jP sA hA.ok p);have hsn:=hA.ok.vf;generalize WU sA=rn at h2 hnm hsn;obtain⟨nm,s3⟩:=rn;simp only at h2 hnm hsn;have htk:=ADet.up (ex:=[18,25,1000023,1000030,1000055]) (Zt s3 hsn.ok.tok [91] p);have hst:=hsn.ok.qF [91];have htn:(QF [91] s3).1=false->(QF [91] s3).2=s3:=fun h=>by rw[(Ug h).2]
   generalize QF [91] s3=rt at h2 htk hst htn;obtain⟨bt,s4⟩:=rt;simp only at h2 htk hst htn;simp[QA];refine Qe.det hnm ?_ (by simp[Qa.keys]) (by decide) rfl (fun v hv=>?_) (fun v hv=>by cases hv)
   ·simp[ne2,q2,u2]
   cases hv;simp[ne1,q1,q2,u1];rcases hce:Xt k
   ·have hd5:decide ((k:Int)<=5)=false:=decide_eq_false (by unfold Xt at hce;simp at hce;omega);rw[hce,if_neg (by simp)] at h2;cases h2;simp[hd5];exact hnext _ () trivial (Qi (by simp) (by simp[hnd]) (by simp[QA,st0,ne1,ne2,q1,q2,u1,u2]) (by simp[ne1,q1,u1]))
   ·have hd5:decide ((k:Int)<=5)=true:=decide_eq_true (by unfold Xt at hce;simp at hce;omega);simp[hd5];refine Qe.det htk ?_ (by simp[Qa.keys]) (by decide) rfl (fun v hv=>?_) (fun v hv=>by cases hv)
    ·simp
    cases hv;cases bt
    ·rw[if_neg (by simp)] at h2;have h43:=htn rfl;subst h43;cases h2;simp[ne1,q1,u1];exact hnext _ () trivial (Qi (by simp) (by simp[hnd]) (by simp[QA,st0,ne1,ne2,q1,q2,u1,u2]) (by simp[ne1,q1,u1]))
    ·rw[if_pos ⟨hce,rfl⟩] at h2;rcases hw:XJ f s4 with _|⟨e,s5⟩
     ·rw[hw] at h2;cases h2
     rw[hw] at h2;have h24:=hsn.trans hst;have hfu4:Xb 8 f s4:=hfA.le h24.le;have hcall:=ADet.up (ex:=[18,25,1000023,1000030,1000055]) (whole_q f s4 e s5 hst.ok hfu4 hw p);have hs5:=hst.ok.jk hw;cases h2;simp[ne1,q1,q2,u1];refine Zr 3 [66] [(p,qblk s4)] [(p,qblk s5)] (Qh e) rfl (by kernel_rfl) (by simp[Qa.keys]) (by simp[Qa.keys]) (by simp[Qa.keys]) ?_;simp[q2];refine DetS.of rfl rfl rfl rfl rfl hcall rfl (by simp[ne2,q2,u2]) ?_;obtain⟨eo,en,em,ep⟩:=e;simp[ne1,q1,q2,u1,u2,AOut.val,ASt.putD,Qh];refine⟨?_,?_⟩
     ·intro t ht v hv id hid;simp at ht;subst ht;simp at hv;subst hv;simp[Qq] at hid;subst hid;simpa[Qa.keys] using q1
     ·refine Qe.det (ADet.up (VN s5 hs5.ok [93] p)) ?_ (by simp[Qa.keys]) (by decide) rfl (fun v hv=>?_) (fun v hv=>by cases hv)
      ·simp
      cases hv;simp[ne1,q1,u1];exact hnext _ () trivial (Qi (by simp) (by simp[hnd]) (by simp[QA,st0,Qh,ne1,ne2,q1,q2,u1,u2]) (by simp[ne1,q1,u1]))
 rintro⟨⟩ -;obtain⟨tl,htl,htlk⟩:∃ tl,[V.int .i64 1,V.int .i64 0,V.int .i64 1,V.int .i64 1,V.int .i64 1,V.int .i64 2,V.int .i64 0,V.int .i64 0,V.int .i64 0,V.int .i64 0,V.int .i64 0,V.int .i64 0,V.int .i64 0,V.int .i64 1,V.int .i64 1,V.int .i64 1,V.int .i64 1]=tl/\tl.length=17/\tl[k]? = some (V.int .i64 (QR k:Nat)):=⟨_,rfl,rfl,by
  rcases nat17 hklt with rfl|rfl|rfl|rfl|rfl|rfl|rfl|rfl|rfl|rfl|rfl|rfl|rfl|rfl|rfl|rfl|rfl<;>rfl⟩
 obtain⟨htl17,htlk⟩:=htlk;have ht2:=wN k;have hlv:∀ h:k<tl.length,tl[k]'h=V.int .i64 (QR k:Nat):=fun h=>by
  rw[List.getElem?_eq_getElem h] at htlk;exact Option.some.inj htlk
 have hr17:List.range 17=[0,1,2,3,4,5,6,7,8,9,10,11,12,13,14,15,16]:=rfl;simp[QA,htl,htl17,hlv,hklt,hr17];refine QB (α:=Y4) (J4 (some (ys,sC)) f (QR k) (Qz k)) (fun x=>[(0,.ptr p 0),(1,.int .i64 (deep:Nat)),(4,.ptr (L,0) 0),(5,.ptr (L,1) 0),(6,.int .i64 (k:Nat)),(8,.bool (Qz k)),(78,.int .i64 (QR k:Nat)),(79,.int .i64 x.i)]) (fun x=>[((L,2),.vec 192 4 ((xs++x.es).map Qh) (xs++x.es).length true),((L,1),.cells 56 (QA k reg name ix (.vec (L,2) (xs++x.es).length) t.place)),((L,0),.cells 56 st0),(p,qblk x.s)]) (fun x=>QR k - x.i) ⟨0,[],sB⟩ ⟨hB.ok,Nat.zero_le _,rfl,hfB,by simp[h3,preEM]⟩ (Qb (by simp) (by simp[QA,st0]) (by simp[ne1,q1,u1])) ?_;rintro⟨i,es,sx⟩ L1 K1 ⟨hok,hi,hel,hfx,hres⟩ hL1 - hnext hex hrt - hpn;simp only at hok hi hel hfx hres;have hLL:L<L1:=hL1;simp[QA];refine Qv.mk (fun hb=>?_) fun hb=>?_
 ·have hit:i<QR k:=by simpa using hb
  obtain⟨m,hm⟩:∃ m,QR k - i=m+1:=⟨QR k - i - 1,by omega⟩
  rw[hm,Xk] at hres;have h2c:(if (Qz k||decide (0<i))=true then WC [44] sx else sx)=(if (Qz k||decide (0<i))=true then WC [44] sx else sx):=rfl;have hsy:GoQ sx (if (Qz k||decide (0<i))=true then WC [44] sx else sx):=by
   split
   ·exact hok.Uv _
   ·exact hok.go0
  generalize hsye:(if (Qz k||decide (0<i))=true then WC [44] sx else sx)=sy at hres hsy;rcases hw:XJ f sy with _|⟨e,s5⟩
  ·rw[hw] at hres;cases hres
  rw[hw] at hres;have hfy:Xb 8 f sy:=hfx.le hsy.le;have hcall:=ADet.up (ex:=[18,25,1000023,1000030,1000055]) (whole_q f sy e s5 hsy.ok hfy hw p);have hs5:=hsy.ok.jk hw;have w1:=wr2 i;have c1:xs.length+es.length<=9223372036854775806:=by omega
  have c2:(xs.length+es.length+1)*72<=140737488355328:=by omega
  apply merge3 (a:=Qz k=true) (b:=Qz k=false/\i=0) (c:=Qz k=false/\0<i) (by rcases Qz k<;>simp;omega)
  case ha=>
   intro hnd hG;rw[hnd,Bool.true_or,if_pos rfl] at hsye;simp[hnd];refine Qe.det (ADet.up (VN sx hok [44] p)) ?_ (by simp[Qa.keys]) (by decide) rfl (fun v hv=>?_) (fun v hv=>by cases hv)
   ·simp
   cases hv;rw[hsye];simp[ne1,q1,u1];refine Qw (Qi (m:=0) (τ':=[(0,.ptr p 0),(1,.int .i64 (deep:Nat)),(4,.ptr (L,0) 0),(5,.ptr (L,1) 0),(6,.int .i64 (k:Nat)),(8,.bool (Qz k)),(78,.int .i64 (QR k:Nat)),(79,.int .i64 i)]) (σ':=[((L,2),.vec 192 4 (xs.map Qh++es.map Qh) (xs.length+es.length) true),((L,1),.cells 56 (QA k reg name ix (.vec (L,2) (xs.length+es.length)) t.place)),((L,0),.cells 56 st0),(p,qblk sy)]) (by simp) (by simp[hnd]) (by simp[QA,st0,ne1,ne2,q1,q2,u1,u2]) (by simp[ne1,q1,u1])) ?_;exact hG.it
  case hb=>
   intro hnd hG;obtain⟨hnd,hi0⟩:=hnd;have hi1:¬ 0<i:=by omega
   rw[hnd,decide_eq_false hi1,if_neg (by simp)] at hsye;simp[hnd,hi1];refine Qw (Qi (m:=0) (τ':=[(0,.ptr p 0),(1,.int .i64 (deep:Nat)),(4,.ptr (L,0) 0),(5,.ptr (L,1) 0),(6,.int .i64 (k:Nat)),(8,.bool (Qz k)),(78,.int .i64 (QR k:Nat)),(79,.int .i64 i)]) (σ':=[((L,2),.vec 192 4 (xs.map Qh++es.map Qh) (xs.length+es.length) true),((L,1),.cells 56 (QA k reg name ix (.vec (L,2) (xs.length+es.length)) t.place)),((L,0),.cells 56 st0),(p,qblk sy)]) (by simp) (by simp[hnd]) (by simp[QA,st0,hsye]) (by simp[ne1,q1,u1])) ?_;exact hG.it
  case hc=>
   intro hnd hG;obtain⟨hnd,hi1⟩:=hnd;rw[hnd,decide_eq_true hi1,if_pos (by simp)] at hsye;simp[hnd,hi1];refine Qe.det (ADet.up (VN sx hok [44] p)) ?_ (by simp[Qa.keys]) (by decide) rfl (fun v hv=>?_) (fun v hv=>by cases hv)
   ·simp
   cases hv;rw[hsye];simp[ne1,q1,u1];refine Qw (Qi (m:=0) (τ':=[(0,.ptr p 0),(1,.int .i64 (deep:Nat)),(4,.ptr (L,0) 0),(5,.ptr (L,1) 0),(6,.int .i64 (k:Nat)),(8,.bool (Qz k)),(78,.int .i64 (QR k:Nat)),(79,.int .i64 i)]) (σ':=[((L,2),.vec 192 4 (xs.map Qh++es.map Qh) (xs.length+es.length) true),((L,1),.cells 56 (QA k reg name ix (.vec (L,2) (xs.length+es.length)) t.place)),((L,0),.cells 56 st0),(p,qblk sy)]) (by simp) (by simp[hnd]) (by simp[QA,st0,ne1,ne2,q1,q2,u1,u2]) (by simp[ne1,q1,u1])) ?_;exact hG.it
  case hm=>
  refine Zr 3 [89] [(p,qblk sy)] [(p,qblk s5)] (Qh e) rfl (by kernel_rfl) (by simp[Qa.keys]) (by simp[Qa.keys]) (by simp[Qa.keys]) ?_;simp[QA];refine DetS.of rfl rfl rfl rfl rfl hcall rfl (by simp[ne2,q2,u2]) ?_;obtain⟨eo,en,em,ep⟩:=e;simp[ne1,q1,q2,u1,u2,AOut.val,ASt.putD,Qh,c1,c2,w1];refine⟨?_,?_⟩
  ·intro t ht v hv id hid;simp at ht;subst ht;simp at hv;subst hv;simp[Qq] at hid;subst hid;simpa[Qa.keys] using q1
  ·refine hnext _ ⟨i+1,es++[.mk eo en em ep],s5⟩ ⟨hs5.ok,by simp only;omega,by simp[hel],hfy.le hs5.le,?_⟩ (by simp only;omega) (Qb (by simp) (by simp[QA,st0,Qh,Nat.add_assoc]) (by simp[ne1,q1,u1]));have hm1:QR k - (i+1)=m:=by omega
   have hd2:decide (0<i+1)=true:=decide_eq_true (Nat.succ_pos _);rw[hres];simp only[hm1,hd2,Bool.or_true];rcases Xk f true m s5 with _|⟨zs,s6⟩
   ·rfl
   ·simp[preEM]
 ·have hit:i=QR k:=by simp at hb;omega
  subst hit;rw[Nat.sub_self,Xk] at hres;have hre:ys=es/\sC=sx:=by simpa[preEM] using hres
  obtain⟨rfl,rfl⟩:=hre;refine hex _ _ ?_;simp;by_cases hk15:(k:Int)<15
  ·rw[if_pos hk15] at h;cases h;simp[hk15];refine Qe.det (ADet.up (VN sC hok [59] p)) ?_ (by simp[Qa.keys]) (by decide) rfl (fun v hv=>?_) (fun v hv=>by cases hv)
   ·simp
   cases hv;simp[ne1,ne2,q1,q2,u1,st0];refine hR _ (.keep [((L,2),.vec 192 4 ((xs++ys).map Qh) (xs++ys).length true)] [(p,qblk (WC [59] sC))] (by simp[Qf,Qj,ne2];rfl) (by simp) (by simp) (by simp[Qa.keys]) (by simp[Qa.keys,u2]) (v':=We (.mk k reg name ix (xs++ys) [] [] t.place)) ?_ ⟨rfl,rfl⟩);rw[We,Wj];exact .agg (.cons (.refl _) (.cons (.refl _) (.cons (.refl _) (.cons (.refl _) (.cons (UX (by simp)) (.cons .snil (.cons .snil (.cons (.refl _) .nil))))))))
  ·rw[if_neg hk15] at h;rcases hbk:Xn f (deep+1) sC with _|⟨body,s6⟩
   ·rw[hbk] at h;cases h
   rw[hbk] at h;have hfb:Xb 7 f sC:=fun h0=>by
    have a1:=hleft h0;have a2:=hf (hC.le.code h0);exact⟨by omega,by omega⟩
   have w2:IntKind.i64.wrap ((deep:Int)+1)=(deep:Int)+1:=wrap_i64 (by omega) (by omega);have hcall:=ADet.up (ex:=[18,25,1000023,1000030,1000055]) (hbl (deep+1) sC body s6 (by omega) hok hfb hbk p);have hs6:=(jA f).1 _ _ _ _ hok hbk;have e1:((deep+1:Nat):Int)=(deep:Int)+1:=by omega
   rw[e1] at hcall;simp[hk15,w2];refine Qe.det hcall ?_ (by simp[Qa.keys]) (by decide) rfl (fun v hv=>?_) (fun v hv=>by cases hv)
   ·simp
   cases hv;simp[ne1,q1,q2,u1];have htk:=ADet.up (ex:=[18,25,1000023,1000030,1000055]) (Zt s6 hs6.ok.tok YW p);have hst:=hs6.ok.qF YW;have htn:(QF YW s6).1=false->(QF YW s6).2=s6:=fun h=>by rw[(Ug h).2]
   simp only at h;have plain:x = .mk k reg name ix (xs++ys) body [] t.place->s' = s6->∀ s4,Qf TC.P s4 Tryz.f76.results.toList=some [.agg [.int .i64 k,.str (bs reg),.str (bs name),.bool ix,.vec (L,2) (xs.length+ys.length),.slice (Qr body),.snil,.int .i64 t.place]]->((L,2),.vec 192 4 (xs.map Qh++ys.map Qh) (xs.length+ys.length) true)∈s4.σ->(p,qblk s6)∈s4.σ->K .ret s4:=fun hx hs4 s4 r1 r2 r3=>by
    subst hx;subst hs4;refine hR _ (.keep [((L,2),.vec 192 4 ((xs++ys).map Qh) (xs++ys).length true)] [(p,qblk s')] r1 (by simpa using r3) (by simpa using r2) (by simp[Qa.keys]) (by simp[Qa.keys,u2]) (v':=We (.mk k reg name ix (xs++ys) body [] t.place)) ?_ ⟨rfl,rfl⟩);rw[We,Wj];exact .agg (.cons (.refl _) (.cons (.refl _) (.cons (.refl _) (.cons (.refl _) (.cons (UX (by simp)) (.cons (.refl _) (.cons .snil (.cons (.refl _) .nil))))))))
   by_cases hke:(k:Int)=15
   ·have hke2:((k:Int) == 15)=true:=by simp[hke]
    generalize QF YW s6=rt at h htk hst htn;obtain⟨bt,s7⟩:=rt;simp only at h htk hst htn;simp[hke2];refine Qe.det htk ?_ (by simp[Qa.keys]) (by decide) rfl (fun v hv=>?_) (fun v hv=>by cases hv)
    ·simp
    cases hv;cases bt
    ·rw[if_neg (by simp)] at h;have h76:=htn rfl;subst h76;obtain⟨hx,hs7⟩:=Prod.mk.inj (Option.some.inj h);simp[ne1,ne2,q1,q2,u1,st0];exact plain hx.symm hs7.symm _ (by simp[Qf,Qj,ne2]) (by simp) (by simp)
    ·rw[if_pos ⟨hke,rfl⟩] at h;rcases hbk2:Xn f (deep+1) s7 with _|⟨els,s8⟩
     ·rw[hbk2] at h;cases h
     rw[hbk2] at h;cases h;have hfb2:Xb 7 f s7:=(hfb.le hs6.le).le hst.le;have hcall2:=ADet.up (ex:=[18,25,1000023,1000030,1000055]) (hbl (deep+1) s7 els s' (by omega) hst.ok hfb2 hbk2 p);rw[e1] at hcall2;simp[ne1,q1,u1,w2];refine Qe.det hcall2 ?_ (by simp[Qa.keys]) (by decide) rfl (fun v hv=>?_) (fun v hv=>by cases hv)
     ·simp
     cases hv;simp[ne1,ne2,q1,q2,u1,st0];refine hR _ (.keep [((L,2),.vec 192 4 ((xs++ys).map Qh) (xs++ys).length true)] [(p,qblk s')] (by simp[Qf,Qj,ne2];rfl) (by simp) (by simp) (by simp[Qa.keys]) (by simp[Qa.keys,u2]) (v':=We (.mk k reg name ix (xs++ys) body els t.place)) ?_ ⟨rfl,rfl⟩);rw[We,Wj];exact .agg (.cons (.refl _) (.cons (.refl _) (.cons (.refl _) (.cons (.refl _) (.cons (UX (by simp)) (.cons (.refl _) (.cons (.refl _) (.cons (.refl _) .nil))))))))
   ·have hke2:((k:Int) == 15)=false:=by simp[hke]
    rw[if_neg (fun y=>hke y.1)] at h;obtain⟨hx,hs7⟩:=Prod.mk.inj (Option.some.inj h);simp[hke2,ne2,q2,st0];exact plain hx.symm hs7.symm _ (by simp[Qf,Qj,ne2]) (by simp) (by simp)
theorem stmt_allQ:∀ f,StmtQ f:=by
 intro f
 induction f using Nat.strongRecOn with
 | _ f ih=>
   cases f with
   | zero=>exact fun deep s x s' _ _ _ _ h=>by rw[Vh] at h;cases h
   | succ f=>
     refine stmt_q f ?_;cases f with
     | zero=>exact fun deep s b s' _ _ _ h=>by rw[Xn] at h;cases h
     | succ f=>exact block_q f fun g hg=>ih g (by omega)
theorem Whz (f:Nat):Wmz f:=by
 cases f with
 | zero=>exact fun deep s b s' _ _ _ h=>by rw[Xn] at h;cases h
 | succ f=>exact block_q f fun g _=>stmt_allQ g
theorem QOk.QAq {s:QS} (h:QOk s):GoQ s (Wi s).2:=by
 refine⟨h.figure.1,?_⟩;unfold Wi;split
 ·split
  ·exact .next s
  ·exact .refl s
 ·exact .wrong _ _ _ (by decide)
theorem QTq {c:Cx} {s:QS} (h:QOk s):GoQ s (YN c s).2:=by
 unfold YN;split
 ·exact h.go0
 ·have k1:=h.qF [45];generalize QF [45] s=x at k1;obtain⟨m2,s3⟩:=x;simp only at k1 ⊢;have k2:GoQ s3 (if m2=true then (true,s3) else QF [43] s3).2:=by
   split
   ·exact k1.ok.go0
   ·exact k1.ok.qF _
  generalize (if m2=true then (true,s3) else QF [43] s3)=y at k2;obtain⟨q,s4⟩:=y;simp only at k2 ⊢;have k3:=k1.trans k2;split
  ·exact k3
  ·have k4:=k3.ok.QAq;generalize Wi s4=z at k4;obtain⟨d,s5⟩:=z;simp only at k4 ⊢;split
   ·exact (k3.trans k4).trans (k4.ok.UW _ _ (by decide))
   ·exact k3.trans k4
theorem QOk.Qzz {s:QS} (h:QOk s):GoQ s (YA s).2:=by
 rw[VL];have k1:=h.qF [45];have k2:=k1.trans k1.ok.QAq;exact k2.trans (QTq k2.ok)
structure XRq where
 g:Nat
 ds:List Dc
 s:QS
structure JRq (R:Except Er (List Dc)) (x:XRq):Prop where
 ok:QOk x.s
 fuel:x.s.code=0->8*x.s.l.length+8<=x.g
 good:x.s.code=0->R=preD x.ds (Xj x.g x.s.l)
 bad:x.s.code≠0->R = .error (x.s.pos,x.s.code)
 len:x.s.code=0->x.ds.length+x.s.l.length<=600000
structure XSq where
 i:Nat
 k:Int
 s:QS
structure JSq (s0:QS) (x:XSq):Prop where
 i:x.i<=6
 at0:(x.k = -1/\x.s=s0/\∀ j,j<x.i->(hd s0.l).isB (QW.getD j [])=false)∨(∃ k:Nat,x.k=k/\k<6/\Wz (hd s0.l)=k/\x.s=s0.next/\(hd s0.l).kind≠0)
theorem Wfw {g:Nat} {l:List Tok} {pos:Int} (hl:QL l) (hk:Wz (hd l)≠6) (hf:8*l.length+8<=g+1):∃ d s3,declM (g+4) ⟨l,pos,0⟩=some (d,s3)/\((XU g l = .ok (d,s3.l)/\s3.code=0)∨(∃ e:Er,XU g l = .error e/\s3.pos=e.1/\s3.code=e.2/\e.2≠0)):=by
 have hf1:=zO (f:=g) (pos:=pos) hl hk;have hok:=yi (f:=g) hl.tok (by omega) (Vi hk);rcases hr:XU g l with⟨q,c⟩|⟨d,l2⟩
 ·rw[hr] at hf1;rcases hf1 with hf1|⟨hf1,a,l',ht,hm⟩
  ·simp only at hf1;subst hf1;exact absurd hr (hok q)
  ·exact⟨a,_,hm,.inr ⟨(q,c),rfl,rfl,rfl,hf1⟩⟩
 ·rw[hr] at hf1;exact⟨d,⟨l2,pos,0⟩,hf1,.inl ⟨rfl,rfl⟩⟩
theorem Wkz (l:Bs) (hl:l.length<=500000):Ql TC 26 [encS l] (parseRes (YI l)):=by
 refine AFn.ctx (C:=TCe [26,1000067,1000072]) (C':=TC) rfl rfl ?_;obtain⟨gl,hgl,hgl6,hglk⟩:∃ gl,zd=V.agg gl/\gl.length=6/\∀ k,k<6->gl[k]? = some (V.str (bs (QW.getD k []))):=⟨_,rfl,rfl,fun k hk=>by rcases nat6 hk with rfl|rfl|rfl|rfl|rfl|rfl<;>rfl⟩
 refine ent Tryz.func26 fun L K hL hR hN hP=>?_;simp;refine Qe.pure (SplitL_ok l (by omega)).up (by decide) ?_;unfold YI at hR;rcases hlx:lexS l with⟨pe,e⟩|ts
 ·rw[hlx] at hR;have he:=wX hlx;simp only at he;have hb:(e != 0)=true:=by simp[he]
  simp[Ur,hb];refine hR _ (.pures (by simp[Qf,Qj];rfl) (by simp) ?_);exact .tup (.cons (.agg (.cons .snil .nil)) (.cons (.refl _) (.cons (.refl _) .nil)))
 rw[hlx] at hR;simp only at hR;generalize hRd:Xj (8*ts.length+8) ts=R at hR;have hts:=qW hlx;have htl:=hts.len;simp[Ur];refine Qw (Xf (id:=(L,2)) (o:=0) (el:=84) (sz:=5) (by simp[Qa.get];exact⟨rfl,rfl⟩) rfl (by decide)) ?_;refine QB (α:=XRq) (JRq R) (fun x=>[(2,.ptr (L,0) 0),(8,.ptr (L,1) 0),(9,.ptr (L,2) 0)]) (fun x=>[((L,3),.vec 84 5 (x.ds.map QO) x.ds.length true),((L,2),.cells 77 [.vec (L,3) x.ds.length]),((L,1),qblk x.s),((L,0),.cells 77 [.snil])]) (fun x=>x.g) ⟨8*ts.length+8,[],⟨ts,0,0⟩⟩ ⟨⟨hts.tok,hts.num,hts.word⟩,fun _=>Nat.le_refl _,fun _=>by rw[<- hRd];simp only;cases Xj (8*ts.length+8) ts<;>rfl,fun h=>absurd rfl h,fun _=>by simp only[List.length_nil];omega⟩ (Qb (by simp) (by simp[qblk]) (by simp)) ?_;rintro⟨g,ds,⟨lx,pos,code⟩⟩ L1 K1 ⟨hok,hfu,hgood,hbad,hln⟩ hL1 - hnext hex hrt - hpn;simp only at hok hfu hgood hbad hln;obtain⟨hLL,m4,m5⟩:=llu L hL1;obtain⟨t,r,rfl,ht,htk⟩:=TokL.cons hok.tok;have ht:hd (t::r)=t:=ht;have hnx:=ADet.up (ex:=[26,1000067,1000072]) (Zf ⟨t::r,pos,code⟩ hok.tok (L,1));simp only[ht] at hnx;simp[qblk,Qg];by_cases hc:code=0
 case neg=>
  have hcb:(code == 0)=false:=by simp[hc]
  have hcb2:(code != 0)=true:=by simp[hc]
  have hRe:=hbad hc;simp[hcb];refine hex _ _ ?_;simp[hcb2];refine QJ [(97,2),(97,94),(101,2),(101,94)] (by kernel_rfl) ?_;simp;refine⟨?_,?_⟩
  ·intro q hq v w hv hw id hid;simp at hq;rcases hq with rfl|rfl|rfl|rfl<;>simp at hv hw<;>subst hv<;>subst hw<;>simp[Qq] at hid ⊢<;>simp[hid]
  ·refine hR _ (.pures (by simp[Qf,Qj];rfl) (by simp) ?_);rw[hRe];exact .tup (.cons (.agg (.cons .snil .nil)) (.cons (.refl _) (.cons (.refl _) .nil)))
 have hcb:(code == 0)=true:=by simp[hc]
 simp[hcb];refine Qe.det hnx ?_ (by simp[Qa.keys]) (by decide) rfl (fun v hv=>?_) (fun v hv=>by cases hv)
 ·simp[qblk,Qg]
 cases hv;simp[Qg];have hfu1:=hfu hc;have hfu2:8*(t::r).length+8<=g:=hfu1;have hln2:ds.length+(t::r).length<=600000:=hln hc;obtain⟨g,rfl⟩:∃ g',g=g' + 1:=⟨g - 1,by omega⟩
 have hgood2:R=preD ds (Xj (g+1) (t::r)):=hgood hc;rw[Xj,ht] at hgood2;rcases hk0:(t.kind != 0)
 case false=>
  have h0:t.kind=0:=by simpa using hk0
  rw[if_pos h0] at hgood2;have hRe:R = .ok ds:=by rw[hgood2];simp[preD]
  have hcb2:(code != 0)=false:=by simp[hc]
  simp;refine hex _ _ ?_;simp[hcb2,qblk];refine hR _ (.keeps [((L,3),.vec 84 5 (ds.map QO) ds.length true)] [] (by simp[Qf,Qj];rfl) (by simp) (by simp) (by simp) (by simp[Qa.keys]) (by simp[Qa.keys]) ?_ ⟨rfl,rfl⟩);rw[hRe];exact .tup (.cons (.agg (.cons (.vec (t:=84) (s:=5) (es:=ds.map QO) (wr:=true) (by simp) (Qn _)) .nil)) (.cons (.refl _) (.cons (.refl _) .nil)))
 have h0:t.kind≠0:=by simpa using hk0
 rw[if_neg h0] at hgood2;subst hc;simp;refine Qe.det hnx ?_ (by simp[Qa.keys]) (by decide) rfl (fun v hv=>?_) (fun v hv=>by cases hv)
 ·simp[qblk,Qg]
 cases hv;simp[Qg,hgl,hgl6];refine QB (α:=XSq) (JSq ⟨t::r,pos,0⟩) (fun x=>[(2,.ptr (L,0) 0),(8,.ptr (L,1) 0),(9,.ptr (L,2) 0),(10,.ptr (L1,0) 0),(11,.int .i64 x.k),(43,.agg gl),(44,.int .i64 x.i)]) (fun x=>[((L1,0),.cells 84 [.int .i64 0,.str (bs []),.cplx .f64 (fz zero.re) (fz zero.im),.snil,.int .i64 t.place]),((L,3),.vec 84 5 (ds.map QO) ds.length true),((L,2),.cells 77 [.vec (L,3) ds.length]),((L,0),.cells 77 [.snil]),((L,1),qblk x.s)]) (fun x=>6 - x.i) ⟨0,-1,⟨t::r,pos,0⟩⟩ ⟨by simp,.inl ⟨rfl,rfl,fun j hj=>by cases hj⟩⟩ (Qb (by simp) (by simp[qblk,Qg,zero,WZ]) (by simp[m4])) ?_;rintro⟨i,kk,s2⟩ L2 K2 ⟨hi,hat⟩ hL2 - hnext2 hex2 hrt2 - hpn2;simp only at hi hat;have hLL2:L1<L2:=hL2;simp;refine Qv.mk (fun hb=>?_) fun hb=>?_
 ·have hi6:i<6:=by simp at hb;omega
  have w1:=wr2 i;obtain⟨w,hw⟩:∃ w,w=QW.getD i []:=⟨_,rfl⟩
  have hx:=hglk i hi6;rw[<- hw] at hx;have hlv:∀ h:i<gl.length,gl[i]'h=V.str (bs w):=fun h=>by
   rw[List.getElem?_eq_getElem h] at hx;exact Option.some.inj hx
  have b1:(0:Int)<=(i:Int):=by omega
  have b2:(i:Int)<6:=by omega
  rcases hat with⟨rfl,rfl,hno⟩|⟨k,rfl,hk6,hso,rfl,hkk⟩
  ·simp[hlv,hgl6,hi6,b1,b2];refine Qe.det (ADet.up (Zt ⟨t::r,pos,0⟩ hok.tok w (L,1))) ?_ (by simp[Qa.keys]) (by decide) rfl (fun v hv=>?_) (fun v hv=>by cases hv)
   ·simp[m5]
   cases hv;rcases htm:(QF w ⟨t::r,pos,0⟩).1
   ·obtain⟨hno2,htm2⟩:=Ug htm;rw[htm2];simp[w1,m4];refine hnext2 _ ⟨i+1,-1,⟨t::r,pos,0⟩⟩ ⟨by simp only;omega,.inl ⟨rfl,rfl,fun j hj=>?_⟩⟩ (by simp only;omega) (Qb (by simp) (by simp[m4,m5]) (by simp[m4]));by_cases e:j=i
    ·rw[e,<- hw];rcases hx:(hd (⟨t::r,pos,0⟩:QS).l).isB w with _|_
     ·rfl
     ·exact absurd ⟨rfl,hx⟩ hno2
    ·exact hno j (by simp only at hj;omega)
   ·obtain⟨_,hb2,htm2⟩:=qp htm;rw[htm2];simp[w1,m4];refine hnext2 _ ⟨i+1,i,(⟨t::r,pos,0⟩:QS).next⟩ ⟨by simp only;omega,.inr ⟨i,rfl,hi6,uA hi6 hno (by rw[<- hw];exact hb2),rfl,QC hb2⟩⟩ (by simp only;omega) (Qb (by simp) (by simp[m4,m5]) (by simp[m4]))
  ·have hkn:¬ ((k:Int)<0):=by omega
   simp[hlv,hgl6,hi6,b1,b2,hkn,w1];exact hnext2 _ ⟨i+1,k,_⟩ ⟨by simp only;omega,.inr ⟨k,rfl,hk6,hso,rfl,hkk⟩⟩ (by simp only;omega) (Qb (by simp) (by simp;rfl) (by simp[m4]))
 ·have hi6:i=6:=by simp at hb;omega
  subst hi6;refine hex2 _ _ ?_;rcases hat with⟨rfl,rfl,hno⟩|⟨k,rfl,hk6,hso,rfl,hkk⟩
  ·have hs6:=Uh hno;have hRe:R = .error (t.place,5):=by
    rw[hgood2];unfold XU;simp only[ht];rw[if_pos (show Wz t=6 from by rw[<- ht];exact hs6)]<;>rfl
   simp;refine Qe.det hnx ?_ (by simp[Qa.keys]) (by decide) rfl (fun v hv=>?_) (fun v hv=>by cases hv)
   ·simp[m5]
   cases hv;simp[Qg,m4];refine Qe.det (ADet.up (ZH ⟨t::r,pos,0⟩ t.place 5 (L,1))) ?_ (by simp[Qa.keys]) (by decide) rfl (fun v hv=>?_) (fun v hv=>by cases hv)
   ·simp[m5]
   cases hv;have hw5:(⟨t::r,pos,0⟩:QS).wrong t.place 5=⟨t::r,t.place,5⟩:=rfl;rw[hw5];simp[m4];refine hex _ _ ?_;have hcb2:((5:Int) != 0)=true:=by decide
   simp[qblk,Qg];refine QJ [(97,2),(97,94),(101,2),(101,94)] (by kernel_rfl) ?_;simp[m4];refine⟨?_,?_⟩
   ·intro q hq v w hv hw id hid;simp at hq;rcases hq with rfl|rfl|rfl|rfl<;>simp at hv hw<;>subst hv<;>subst hw<;>simp[Qq] at hid ⊢<;>simp[hid]
   ·refine hR _ (.pures (by simp[Qf,Qj,m4];rfl) (by simp) ?_);rw[hRe];exact .tup (.cons (.agg (.cons .snil .nil)) (.cons (.refl _) (.cons (.refl _) .nil)))
  ·have hkn:¬ ((k:Int)<0):=by omega
   have hsoT:Wz t=k:=by rw[<- ht];exact hso
   obtain⟨d,s3,hdm,hres⟩:=Wfw (g:=g) (pos:=pos) hok.ql (by rw[show Wz (hd (t::r))=k from hso];omega) hfu2;have hsn:GoQ ⟨t::r,pos,0⟩ (⟨t::r,pos,0⟩:QS).next:=⟨hok.next hkk,.next _⟩
   unfold declM at hdm;simp only[ht,hsoT] at hdm;have hfuS:Xb 7 (g+4) ⟨t::r,pos,0⟩:=fun _=>⟨by show (t::r).length<=1000000;omega,by show 4*(t::r).length+7<=g+4;omega⟩
   generalize (⟨t::r,pos,0⟩:QS).next=s1 at hdm hsn ⊢
   have hrq:GoQ s1 (if k=4 then ([],s1) else WU s1).2:=by
    split
    ·exact hsn.ok.go0
    ·exact hsn.ok.vf
   generalize hrr:(if k=4 then ([],s1) else WU s1)=rr at hdm hrq;obtain⟨nm,s2⟩:=rr;simp only at hdm hrq;simp[hkn];refine Yh (α:=Unit) (fun _=>True) (fun _=>[(2,.ptr (L,0) 0),(8,.ptr (L,1) 0),(9,.ptr (L,2) 0),(10,.ptr (L1,0) 0),(11,.int .i64 (k:Nat))]) (fun _=>[((L1,0),.cells 84 [.int .i64 (k:Nat),.str (bs nm),.cplx .f64 (fz zero.re) (fz zero.im),.snil,.int .i64 t.place]),((L,3),.vec 84 5 (ds.map QO) ds.length true),((L,2),.cells 77 [.vec (L,3) ds.length]),((L,0),.cells 77 [.snil]),((L,1),qblk s2)]) 1 ?_ ?_
   ·intro K3 hnext3 hex3 hrt3 hgo3 hpn3;by_cases h4:k=4
    ·rw[if_pos h4] at hrr;cases hrr;have hb4:((k:Int) != 4)=false:=by simp[h4]
     simp[hb4];exact hnext3 _ () trivial (Qi (by simp) (by simp) (by simp) (by simp[m4]))
    ·rw[if_neg h4] at hrr;have hb4:((k:Int) != 4)=true:=by simp;omega
     have hnm:=ADet.up (ex:=[26,1000067,1000072]) (jP s1 hsn.ok (L,1));rw[hrr] at hnm;simp[hb4];refine Qe.det hnm ?_ (by simp[Qa.keys]) (by decide) rfl (fun v hv=>?_) (fun v hv=>by cases hv)
     ·simp[m5]
     cases hv;simp[m4,m5];exact hnext3 _ () trivial (Qi (by simp) (by simp) (by simp[m4,m5]) (by simp[m4]))
   rintro⟨⟩ -;simp;refine Yh (α:=Unit) (fun _=>True) (fun _=>[(2,.ptr (L,0) 0),(8,.ptr (L,1) 0),(9,.ptr (L,2) 0),(10,.ptr (L1,0) 0)]) (fun _=>[((L1,0),.cells 84 [.int .i64 d.sort,.str (bs d.name),.cplx .f64 (fz d.num.re) (fz d.num.im),if k=5 then .slice (Qr d.body) else .snil,.int .i64 d.place]),((L,3),.vec 84 5 (ds.map QO) ds.length true),((L,2),.cells 77 [.vec (L,3) ds.length]),((L,0),.cells 77 [.snil]),((L,1),qblk s3)]) 1 ?_ ?_
   ·intro K3 hnext3 hex3 hrt3 hgo3 hpn3;by_cases h5:k=5
    ·rw[if_pos h5] at hdm;have hb5:((k:Int) == 5)=true:=by simp[h5]
     rcases hbk:Xn (g+4) 1 s2 with _|⟨b,s4⟩
     ·rw[hbk] at hdm;cases hdm
     rw[hbk] at hdm;cases hdm;have hcall:=ADet.up (ex:=[26,1000067,1000072]) (Whz (g+4) 1 s2 b s3 (by omega) hrq.ok ((hfuS.le hsn.le).le hrq.le) hbk (L,1));simp[hb5];refine Qe.det hcall ?_ (by simp[Qa.keys]) (by decide) rfl (fun v hv=>?_) (fun v hv=>by cases hv)
     ·simp[m5]
     cases hv;simp[m4,m5];subst h5;exact hnext3 _ () trivial (Qi (by simp) (by simp) (by simp[m4,m5]) (by simp[m4]))
    ·rw[if_neg h5] at hdm;have hb5:((k:Int) == 5)=false:=by simp;omega
     have hzq:GoQ s2 (if k=2 then (zero,s2) else YA s2).2:=by
      split
      ·exact hrq.ok.go0
      ·exact hrq.ok.Qzz
     generalize hzz:(if k=2 then (zero,s2) else YA s2)=zz at hdm hzq;obtain⟨z,s4⟩:=zz;simp only at hdm hzq;cases hdm;by_cases h2:k=2
     ·rw[if_pos h2] at hzz;cases hzz;have hb2:((k:Int) != 2)=false:=by simp[h2]
      simp[hb5,hb2];refine Qe.det (ADet.up (VN s2 hzq.ok [59] (L,1))) ?_ (by simp[Qa.keys]) (by decide) rfl (fun v hv=>?_) (fun v hv=>by cases hv)
      ·simp[m5]
      cases hv;simp[m4];exact hnext3 _ () trivial (Qi (by simp) (by simp) (by simp[h5,m4,m5]) (by simp[m4]))
     ·rw[if_neg h2] at hzz;have hb2:((k:Int) != 2)=true:=by simp;omega
      have hnum:=ADet.up (ex:=[26,1000067,1000072]) (number_q s2 hrq.ok (L,1));rw[hzz] at hnum;simp[hb5,hb2];refine Qe.det hnum ?_ (by simp[Qa.keys]) (by decide) rfl (fun v hv=>?_) (fun v hv=>by cases hv)
      ·simp[m5]
      cases hv;simp[Qu,m4,m5];refine Qe.det (ADet.up (VN s4 hzq.ok [59] (L,1))) ?_ (by simp[Qa.keys]) (by decide) rfl (fun v hv=>?_) (fun v hv=>by cases hv)
      ·simp[m5]
      cases hv;simp[m4];exact hnext3 _ () trivial (Qi (by simp) (by simp) (by simp[h5,m4,m5]) (by simp[m4]))
   rintro⟨⟩ -;have hs3:QOk s3:=by
    by_cases h5:k=5
    ·rw[if_pos h5] at hdm;rcases hbk:Xn (g+4) 1 s2 with _|⟨b,s4⟩
     ·rw[hbk] at hdm;cases hdm
     rw[hbk] at hdm;cases hdm;exact ((jA (g+4)).1 _ _ _ _ hrq.ok hbk).ok
    ·rw[if_neg h5] at hdm;cases hdm;have hzq:GoQ s2 (if k=2 then (zero,s2) else YA s2).2:=by
      split
      ·exact hrq.ok.go0
      ·exact hrq.ok.Qzz
     exact hzq.ok.need _
   have hbody:Frz [] (if k=5 then V.slice (Qr d.body) else .snil) (.slice (Qr d.body)):=by
    by_cases h5:k=5
    ·rw[if_pos h5];exact .refl _
    ·rw[if_neg h5] at hdm ⊢;cases hdm;exact .snil
   have c1:ds.length<=9223372036854775806:=by omega
   have c2:(ds.length+1)*72<=140737488355328:=by omega
   simp[m4,c1,c2];refine hnext _ ⟨g,ds++[d],s3⟩ ⟨hs3,fun h0=>?_,fun h0=>?_,fun h0=>?_,fun h0=>?_⟩ (by simp) ?_
   ·simp only at h0 ⊢;rcases hres with⟨hr,_⟩|⟨e,_,_,hc,hne⟩
    ·have hlt:s3.l.length+1<=(t::r).length:=(ZG hok.tok hr).1.2;omega
    ·exact absurd (hc▸h0) hne
   ·simp only at h0 ⊢;rcases hres with⟨hr,_⟩|⟨e,_,_,hc,hne⟩
    ·rw[hgood2,hr];simp only;cases Xj g s3.l with
     | error e=>rfl
     | ok y=>simp[preD]
    ·exact absurd (hc▸h0) hne
   ·simp only at h0 ⊢;rcases hres with⟨_,hc⟩|⟨e,hr,hp,hc,hne⟩
    ·exact absurd hc h0
    ·rw[hgood2,hr,hp,hc]<;>rfl
   ·simp only at h0 ⊢;rcases hres with⟨hr,_⟩|⟨e,_,_,hc,hne⟩
    ·have hlt:s3.l.length+1<=(t::r).length:=(ZG hok.tok hr).1.2;rw[List.length_append,List.length_singleton];omega
    ·exact absurd (hc▸h0) hne
   ·refine Vg [] [((L,3),.vec 84 5 (ds.map QO++[V.agg [V.int .i64 d.sort,.str (bs d.name),.cplx .f64 (fz d.num.re) (fz d.num.im),if k=5 then V.slice (Qr d.body) else .snil,.int .i64 d.place]]) (ds++[d]).length true),((L,2),.cells 77 [.vec (L,3) (ds++[d]).length]),((L,1),qblk s3),((L,0),.cells 77 [.snil])] ?_ ?_ (by simp) (by simp) (by simp[Qa.keys]) ?_
    ·simp;exact⟨.refl _,.refl _,.refl _⟩
    ·simp[m5]
    ·refine .cons (.vec ?_) (.refl _);rw[List.map_append];exact zM (Qn _) (.cons (.agg (.cons (.refl _) (.cons (.refl _) (.cons (.refl _) (.cons hbody (.cons (.refl _) .nil)))))) .nil)
end Go.Awp.R1
