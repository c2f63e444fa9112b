/- Small programs: names, numbers, expressions. -/
import Derived.Lib.ItoaLen
import Derived.Test.YtnielafbkgpgjaaGreatDoorX28
set_option linter.all false
set_option maxRecDepth 100000
set_option maxHeartbeats 8000000
namespace Go.Awp.R1
open Go Go.Awp Go.Proofs Go.Awp.Sp
theorem uE (n:Int) (hn:0<=n/\n<256):∃ w:Bs,w.length=1/\Ql TC 109 [.int .u8 n] (.str (bs w)):=by
 have e:n.tmod 3=n % 3:=Int.tmod_eq_emod_of_nonneg hn.1;have h3:n % 3=0∨n % 3=1∨n % 3=2:=by omega
 rcases h3 with h|h|h
 ·refine⟨[97],rfl,?_⟩;refine ent Tryz.func109 fun L K hL hR hN hP=>?_;simp[e,h];exact hR _ (.pure rfl (.refl _))
 ·refine⟨[98],rfl,?_⟩;refine ent Tryz.func109 fun L K hL hR hN hP=>?_;simp[e,h];exact hR _ (.pure rfl (.refl _))
 ·refine⟨[99],rfl,?_⟩;refine ent Tryz.func109 fun L K hL hR hN hP=>?_;simp[e,h];exact hR _ (.pure rfl (.refl _))
theorem wrap_u8 {n:Int} (h1:0<=n) (h2:n<256):IntKind.u8.wrap n=n:=by
 simp[IntKind.wrap,IntKind.bits,IntKind.signed];omega
theorem wrap_i32 {n:Int} (h1:-2147483648<=n) (h2:n<2147483648):IntKind.i32.wrap n=n:=by
 simp[IntKind.wrap,IntKind.bits,IntKind.signed];omega
theorem many_ok (n:Int) (hn:0<=n/\n<256):Ql TC 40 [.int .u8 n,.int .u8 3,.bool false] (.int .u8 (1+n % 3)):=by
 have e:n.tmod 3=n % 3:=Int.tmod_eq_emod_of_nonneg hn.1;have w:IntKind.u8.wrap (1+n % 3)=1+n % 3:=wrap_u8 (by omega) (by omega);refine ent Tryz.func40 fun L K hL hR hN hP=>?_;simp[e,w];exact hR _ (.pure rfl (.refl _))
theorem enc_digit (k:Int) (h:0<=k/\k<9):∃ c:UInt8,Utf8.encode (48+k)=bs [c]:=by
 have:k=0∨k=1∨k=2∨k=3∨k=4∨k=5∨k=6∨k=7∨k=8:=by omega
 rcases this with rfl|rfl|rfl|rfl|rfl|rfl|rfl|rfl|rfl
 ·exact⟨48,rfl⟩
 ·exact⟨49,rfl⟩
 ·exact⟨50,rfl⟩
 ·exact⟨51,rfl⟩
 ·exact⟨52,rfl⟩
 ·exact⟨53,rfl⟩
 ·exact⟨54,rfl⟩
 ·exact⟨55,rfl⟩
 ·exact⟨56,rfl⟩
theorem Yj (s:Bs) (n m:Int) (hs:s.length<=1000) (hn:0<=n/\n<256) (hm:0<m/\m<=9):∃ c:UInt8,Ql TC 41 [.str (bs s),.int .u8 n,.int .u8 m] (.str (bs (s++[c]))):=by
 have e:n.tmod m=n % m:=Int.tmod_eq_emod_of_nonneg hn.1;have h1:0<=n % m:=Int.emod_nonneg _ (by omega);have h2:n % m<m:=Int.emod_lt_of_pos _ hm.1;have h0:¬ m=0:=by omega
 have w:IntKind.u8.wrap (48+n % m)=48+n % m:=wrap_u8 (by omega) (by omega);have w2:IntKind.i32.wrap (48+n % m)=48+n % m:=wrap_i32 (by omega) (by omega);obtain⟨c,hc⟩:=enc_digit (n % m) ⟨h1,by omega⟩;have hl:s.length+1<=9223372036854775807:=by omega
 refine⟨c,?_⟩;refine ent Tryz.func41 fun L K hL hR hN hP=>?_;simp[e,h0,w,w2,hc,hl];exact hR _ (.pure rfl (.refl _))
theorem num_ok (n:Int) (hn:-128<=n/\n<128):Ql TC 110 [.int .i8 n] (Qh (.mk [] (if n<0 then ⟨0,n % 16+1⟩ else ⟨n % 16,0⟩) [] [])):=by
 have w:IntKind.u8.wrap n=n % 256:=by simp[IntKind.wrap,IntKind.bits,IntKind.signed]
 have e:(n % 256).tmod 16=n % 16:=by rw[Int.tmod_eq_emod_of_nonneg (by omega)];omega
 have hf:FloatKind.f64.nearest (n % 16)=fz (n % 16):=Xi (by unfold QV;omega);have ha:floatBits .add .f64 (fz (n % 16)) 4607182418800017408=some (fz (n % 16+1)):=by
  have:=vh (a:=n % 16) (b:=1) (by unfold QV;omega) (by unfold QV;omega)
  rwa [show fz 1=4607182418800017408 from by decide] at this
 refine ent Tryz.func110 fun L K hL hR hN hP=>?_;simp[e,w,hf];refine Qv.mk (fun hb=>?_) fun hb=>?_
 ·have hb2:n<0:=by simpa using hb
  simp[ha];refine hR _ (.pure (by simp[Qf,Qj];rfl) ?_);rw[if_pos hb2];exact .agg (.cons (.refl _) (.cons (by rw[WZ];exact .refl _) (.cons (.refl _) (.cons .snil .nil))))
 ·have hb2:¬ n<0:=by simpa using hb
  simp;refine hR _ (.pure (by simp[Qf,Qj];rfl) ?_);rw[if_neg hb2];exact .agg (.cons (.refl _) (.cons (by rw[WZ];exact .refl _) (.cons (.refl _) (.cons .snil .nil))))
theorem Qpq (n:Int) (hn:0<=n/\n<256):∃ w:Bs,w.length=1/\Ql TC 143 [.int .u8 n] (Qh (.mk wReg zero w [])):=by
 obtain⟨w,hw,h⟩:=uE n hn;refine⟨w,hw,?_⟩;refine ent Tryz.func143 fun L K hL hR hN hP=>?_;simp;refine Qc h ?_;simp;refine hR _ (.pure (by simp[Qf,Qj];rfl) ?_);exact .agg (.cons (.refl _) (.cons (by rw[show zero=(⟨0,0⟩:Cx) from rfl,WZ];exact .refl _) (.cons (.refl _) (.cons .snil .nil))))
def unOps:List Bs:=[[110,101,103],[99,111,110,106],[110,111,116],[110,111,114,109]]
def binOps:List Bs:=[[43],[45],[42],[61,61],[33,61],[60]]
inductive Zm:Nat->Ex->Prop
 | num {n:Nat} {z:Cx} (h:Xg z):Zm (n+1) (.mk [] z [] [])
 | reg {n:Nat} {w:Bs} (h:w.length=1):Zm (n+1) (.mk wReg zero w [])
 | un {n:Nat} {op:Bs} {a:Ex} (h:op∈unOps) (ha:Zm n a):Zm (n+1) (.mk op zero [] [a])
 | bin {n:Nat} {op:Bs} {a b:Ex} (h:op∈binOps) (ha:Zm n a) (hb:Zm n b):Zm (n+1) (.mk op zero [] [a,b])
theorem Zm.mono {n:Nat} {e:Ex} (h:Zm n e):∀ {m:Nat},n<=m->Zm m e:=by
 induction h with
 | num h=>intro m hm;obtain⟨k,rfl⟩:∃ k,m=k+1:=⟨m - 1,by omega⟩;exact .num h
 | reg h=>intro m hm;obtain⟨k,rfl⟩:∃ k,m=k+1:=⟨m - 1,by omega⟩;exact .reg h
 | un h _ ih=>intro m hm;obtain⟨k,rfl⟩:∃ k,m=k+1:=⟨m - 1,by omega⟩;exact .un h (ih (by omega))
 | bin h _ _ iha ihb=>intro m hm;obtain⟨k,rfl⟩:∃ k,m=k+1:=⟨m - 1,by omega⟩;exact .bin h (iha (by omega)) (ihb (by omega))
theorem Qtq (n:Int) (hn:-128<=n/\n<128) (m:Nat):∃ e,Zm (m+1) e/\Ql TC 110 [.int .i8 n] (Qh e):=⟨_,.num (by split<;>exact⟨by simp only;omega,by simp only;omega⟩),num_ok n hn⟩
theorem encZ:V.cplx .f64 (fz zero.re) (fz zero.im) = .cplx .f64 0 0:=by
 rw[show zero=(⟨0,0⟩:Cx) from rfl];simp only[WZ]
theorem yv (k n:Int) (hk:0<=k/\k<256) (hn:-128<=n/\n<128):∃ e,Zm 3 e/\Ql TC 108 [.int .u8 k,.int .i8 n] (Qh e):=by
 obtain⟨w,hw,hr⟩:=Qpq (k / 16) ⟨by omega,by omega⟩;obtain⟨b,hb,hu⟩:=Qtq n hn 0;have ga:Zm 1 (.mk wReg zero w []):=.reg hw;obtain⟨a,ha⟩:∃ a,a=Ex.mk wReg zero w []:=⟨_,rfl⟩
 rw[<- ha] at ga hr;have e1:k.tdiv 16=k / 16:=Int.tdiv_eq_ediv_of_nonneg hk.1;have ew:IntKind.u8.wrap (k / 16)=k / 16:=wrap_u8 (by omega) (by omega);have e2:k.tmod 16=k % 16:=Int.tmod_eq_emod_of_nonneg hk.1;have h16:k % 16=0∨k % 16=1∨k % 16=2∨k % 16=3∨k % 16=4∨k % 16=5∨k % 16=6∨k % 16=7∨k % 16=8∨k % 16=9∨k % 16=10∨k % 16=11∨k % 16=12∨k % 16=13∨k % 16=14∨k % 16=15:=by omega
 rcases h16 with h|h|h|h|h|h|h|h|h|h|h|h|h|h|h|h
 ·refine⟨b,hb.mono (by decide),?_⟩;refine ent Tryz.func108 fun L K hL hR hN hP=>?_;simp[e1,ew];refine Qc hr ?_;simp;refine Qc hu ?_;cases a;cases b;simp[Qh,e2,h];refine hR _ (.pure (by simp[Qf,Qj];rfl) ?_);simp only[Qh];exact .refl _
 ·refine⟨b,hb.mono (by decide),?_⟩;refine ent Tryz.func108 fun L K hL hR hN hP=>?_;simp[e1,ew];refine Qc hr ?_;simp;refine Qc hu ?_;cases a;cases b;simp[Qh,e2,h];refine hR _ (.pure (by simp[Qf,Qj];rfl) ?_);simp only[Qh];exact .refl _
 ·refine⟨b,hb.mono (by decide),?_⟩;refine ent Tryz.func108 fun L K hL hR hN hP=>?_;simp[e1,ew];refine Qc hr ?_;simp;refine Qc hu ?_;cases a;cases b;simp[Qh,e2,h];refine hR _ (.pure (by simp[Qf,Qj];rfl) ?_);simp only[Qh];exact .refl _
 ·refine⟨b,hb.mono (by decide),?_⟩;refine ent Tryz.func108 fun L K hL hR hN hP=>?_;simp[e1,ew];refine Qc hr ?_;simp;refine Qc hu ?_;cases a;cases b;simp[Qh,e2,h];refine hR _ (.pure (by simp[Qf,Qj];rfl) ?_);simp only[Qh];exact .refl _
 ·refine⟨a,ga.mono (by decide),?_⟩;refine ent Tryz.func108 fun L K hL hR hN hP=>?_;simp[e1,ew];refine Qc hr ?_;simp;refine Qc hu ?_;cases a;cases b;simp[Qh,e2,h];refine hR _ (.pure (by simp[Qf,Qj];rfl) ?_);simp only[Qh];exact .refl _
 ·refine⟨a,ga.mono (by decide),?_⟩;refine ent Tryz.func108 fun L K hL hR hN hP=>?_;simp[e1,ew];refine Qc hr ?_;simp;refine Qc hu ?_;cases a;cases b;simp[Qh,e2,h];refine hR _ (.pure (by simp[Qf,Qj];rfl) ?_);simp only[Qh];exact .refl _
 ·refine⟨.mk [43] zero [] [a,b],.bin (by decide) (ga.mono (by decide)) (hb.mono (by decide)),?_⟩;refine ent Tryz.func108 fun L K hL hR hN hP=>?_;simp[e1,ew];refine Qc hr ?_;simp;refine Qc hu ?_;cases a;cases b;simp[Qh,e2,h];refine hR _ (.pure (by simp[Qf,Qj];rfl) ?_);simp only[Qh,Qm,encZ];exact .refl _
 ·refine⟨.mk [45] zero [] [b,a],.bin (by decide) (hb.mono (by decide)) (ga.mono (by decide)),?_⟩;refine ent Tryz.func108 fun L K hL hR hN hP=>?_;simp[e1,ew];refine Qc hr ?_;simp;refine Qc hu ?_;cases a;cases b;simp[Qh,e2,h];refine hR _ (.pure (by simp[Qf,Qj];rfl) ?_);simp only[Qh,Qm,encZ];exact .refl _
 ·refine⟨.mk [42] zero [] [a,b],.bin (by decide) (ga.mono (by decide)) (hb.mono (by decide)),?_⟩;refine ent Tryz.func108 fun L K hL hR hN hP=>?_;simp[e1,ew];refine Qc hr ?_;simp;refine Qc hu ?_;cases a;cases b;simp[Qh,e2,h];refine hR _ (.pure (by simp[Qf,Qj];rfl) ?_);simp only[Qh,Qm,encZ];exact .refl _
 ·refine⟨.mk [61,61] zero [] [a,b],.bin (by decide) (ga.mono (by decide)) (hb.mono (by decide)),?_⟩;refine ent Tryz.func108 fun L K hL hR hN hP=>?_;simp[e1,ew];refine Qc hr ?_;simp;refine Qc hu ?_;cases a;cases b;simp[Qh,e2,h];refine hR _ (.pure (by simp[Qf,Qj];rfl) ?_);simp only[Qh,Qm,encZ];exact .refl _
 ·refine⟨.mk [33,61] zero [] [a,b],.bin (by decide) (ga.mono (by decide)) (hb.mono (by decide)),?_⟩;refine ent Tryz.func108 fun L K hL hR hN hP=>?_;simp[e1,ew];refine Qc hr ?_;simp;refine Qc hu ?_;cases a;cases b;simp[Qh,e2,h];refine hR _ (.pure (by simp[Qf,Qj];rfl) ?_);simp only[Qh,Qm,encZ];exact .refl _
 ·refine⟨.mk [60] zero [] [a,b],.bin (by decide) (ga.mono (by decide)) (hb.mono (by decide)),?_⟩;refine ent Tryz.func108 fun L K hL hR hN hP=>?_;simp[e1,ew];refine Qc hr ?_;simp;refine Qc hu ?_;cases a;cases b;simp[Qh,e2,h];refine hR _ (.pure (by simp[Qf,Qj];rfl) ?_);simp only[Qh,Qm,encZ];exact .refl _
 ·refine⟨.mk [110,101,103] zero [] [.mk [43] zero [] [a,b]],.un (by decide) (.bin (by decide) (ga.mono (by decide)) (hb.mono (by decide))),?_⟩;refine ent Tryz.func108 fun L K hL hR hN hP=>?_;simp[e1,ew];refine Qc hr ?_;simp;refine Qc hu ?_;cases a;cases b;simp[Qh,e2,h];refine hR _ (.pure (by simp[Qf,Qj];rfl) ?_);simp only[Qh,Qm,encZ];exact .refl _
 ·refine⟨.mk [99,111,110,106] zero [] [a],.un (by decide) (ga.mono (by decide)),?_⟩;refine ent Tryz.func108 fun L K hL hR hN hP=>?_;simp[e1,ew];refine Qc hr ?_;simp;refine Qc hu ?_;cases a;cases b;simp[Qh,e2,h];refine hR _ (.pure (by simp[Qf,Qj];rfl) ?_);simp only[Qh,Qm,encZ];exact .refl _
 ·refine⟨.mk [110,111,116] zero [] [a],.un (by decide) (ga.mono (by decide)),?_⟩;refine ent Tryz.func108 fun L K hL hR hN hP=>?_;simp[e1,ew];refine Qc hr ?_;simp;refine Qc hu ?_;cases a;cases b;simp[Qh,e2,h];refine hR _ (.pure (by simp[Qf,Qj];rfl) ?_);simp only[Qh,Qm,encZ];exact .refl _
 ·refine⟨.mk [110,111,114,109] zero [] [.mk [42] zero [] [a,a]],.un (by decide) (.bin (by decide) (ga.mono (by decide)) (ga.mono (by decide))),?_⟩;refine ent Tryz.func108 fun L K hL hR hN hP=>?_;simp[e1,ew];refine Qc hr ?_;simp;refine Qc hu ?_;cases a;cases b;simp[Qh,e2,h];refine hR _ (.pure (by simp[Qf,Qj];rfl) ?_);simp only[Qh,Qm,encZ];exact .refl _
theorem VW {w:World} {a:Addr} {v:Value} (h:w.cell? a=some v):a.block<w.heap.size:=by
 unfold World.cell? at h;cases hb:w.heap[a.block]? with
 | none=>rw[hb] at h;cases h
 | some o=>exact (Array.getElem?_eq_some_iff.1 hb).1
theorem Join_ok (l:List Bs) (sep:Bs) (hn:l.length<=1000000) (hl:(Lib.join l sep).length<=140737488355328):Ql TC 107 [.slice (l.map encS),.str (bs sep)] (.str (bs (Lib.join l sep))):=by
 refine Yx ⟨_,Tryz.func107,rfl,by decide⟩ fun E cargs hg ha=>?_;obtain⟨cv,rfl,hr⟩:∃ cv,cargs=[cv,.string (bs sep)]/\Rep E (.slice (l.map encS)) cv:=by
  cases ha with
  | cons h t=>cases t with
    | cons h2 t=>cases t;cases h2;exact⟨_,rfl,h⟩
 have hmap:(l.map bs).map (·.data.toList)=l:=by
  rw[List.map_map]
  conv=>rhs;rw[<- List.map_id l]
  exact List.map_congr_left fun x _=>by simp -implicitDefEqProofs [bs]
 cases l with
 | nil=>
   obtain⟨a,c,rfl,_⟩:=hr.UL;refine (Tryz.strings_Join_none a c (bs sep) E.w).mono ?_;rintro e w' ⟨rfl,rfl⟩;exact⟨_,rfl,⟨rfl,rfl,rfl,Nat.le_refl _,fun j _=>rfl⟩,fun E' _ _=>.str _⟩
 | cons x r=>
   generalize hes:(x::r).map encS=es at hr;have hlen:es.length=(x::r).length:=by rw[<- hes];simp -implicitDefEqProofs
   cases hr with
   | slice0=>cases hes
   | @slice _ cvs b o cap s hq hc hu hcap=>
     have hcell:∀ (j:Nat) y,((x::r).map bs)[j]? = some y->E.w.cell? ⟨b,o+j,none⟩=some (.string y):=fun j y hj=>by
      have hfl:es.flatMap V.cells=es:=by
       rw[<- hes];generalize (x::r)=q
       induction q with
       | nil=>rfl
       | cons y q ih=>simp only[List.map_cons,List.flatMap_cons,ih]<;>rfl
      rw[hfl] at hq;obtain⟨u,hu2⟩:∃ u,(x::r)[j]? = some u/\bs u=y:=by
       rw[List.getElem?_map] at hj;exact Option.map_eq_some_iff.1 hj
      have hej:es[j]? = some (.str y):=by rw[<- hes,List.getElem?_map,hu2.1,<- hu2.2]<;>rfl
      obtain⟨cv,hcv,hrep⟩:=hq.get hej;have:=(hc j cv hcv).1;cases hrep;exact this
     have hb:b<E.w.heap.size:=VW (hcell 0 _ rfl);rw[hlen];have hll:((x::r).map bs).length=(x::r).length:=by simp -implicitDefEqProofs
     have:=Tryz.strings_Join b o cap ((x::r).map bs) (bs sep) E.w hcell hb (by simp -implicitDefEqProofs at hn ⊢;omega) (by rw[hll,<- hlen];exact hcap) (by rw[hmap];simpa[bs] using hl);rw[hll] at this;refine this.mono ?_;rintro e w' ⟨rfl,hbl⟩;refine⟨_,rfl,hbl,fun E' _ _=>?_⟩;rw[hmap];have:(⟨(Lib.join (x::r) (bs sep).data.toList).toArray⟩:ByteArray)=bs (Lib.join (x::r) sep):=by simp -implicitDefEqProofs [bs]
     rw[this];exact .str _
theorem join_len (l:List Bs) (sep:Bs) (B:Nat) (h:∀ b∈l,b.length<=B):(Lib.join l sep).length<=l.length*(B+sep.length):=by
 have tail:∀ r:List Bs,(∀ b∈r,b.length<=B)->(Lib.joinTail sep r).length<=r.length*(B+sep.length):=fun r=>by
  induction r with
  | nil=>intro _;simp -implicitDefEqProofs [Lib.joinTail]
  | cons y r ih=>
    intro h;have h1:=h y (by simp -implicitDefEqProofs);have h2:=ih fun b hb=>h b (by simp -implicitDefEqProofs [hb]);have e:Lib.joinTail sep (y::r)=sep++y++Lib.joinTail sep r:=by simp -implicitDefEqProofs [Lib.joinTail,List.append_assoc]
    rw[e];simp only[List.length_append,List.length_cons,Nat.add_mul,Nat.one_mul];omega
 cases l with
 | nil=>simp -implicitDefEqProofs [Lib.join_nil]
 | cons x r=>
   rw[Lib.join_cons];have h1:=h x (by simp -implicitDefEqProofs);have h2:=tail r fun b hb=>h b (by simp -implicitDefEqProofs [hb]);simp only[List.length_append,List.length_cons,Nat.add_mul,Nat.one_mul];omega
theorem Wg {C:Ctx} {n:Nat} {c:Prop} [Decidable c] {v:V} {dst:Option Tmp} {ops:Array Oper} {r:List Oper} {st:List Fr} {K:QH->ASt->Prop} {s:ASt} (hc:c) (h:ResO C n (Wr (some v)) dst ops r st K s):ResO C n (Wr (if c then some v else none)) dst ops r st K s:=by
 rw[if_pos hc];exact h
theorem jj (n:Int) (h:n.natAbs<=1048576):Ql TC 69 [.int .i64 n] (.str (bs (Lib.itoa n)))/\(Lib.itoa n).length<=21:=⟨Itoa_ok n (by omega) (by omega),Lib.itoa_length_le n (by omega) (by omega)⟩
theorem etext:∀ (n:Nat) (e:Ex),Zm n e->n<=10->∃ b:Bs,b.length+8<=15*2 ^ n/\Ql TC 106 [Qh e] (.str (bs b)):=by
 intro n e h
 induction h with
 | @num n z hz=>
   intro _;have hp:1<=2 ^ n:=Nat.one_le_two_pow;have ti:=ZQ (QD hz.2);have tr:=ZQ (QD hz.1);have hne:=QBq (a:=z.im) (b:=0) (QD hz.2) (by unfold QV;omega);rw[WZ] at hne;by_cases h0:z.im=0
   ·obtain⟨hi,hl⟩:=jj z.re hz.1;refine⟨Lib.itoa z.re,by rw[Nat.pow_succ];omega,?_⟩;refine ent Tryz.func106 fun L K hL hR hN hP=>?_;have hd:decide (z.im≠0)=false:=by simp -implicitDefEqProofs [h0]
    rw[hd] at hne;simp -implicitDefEqProofs [Qh,hne,tr];refine Qc hi ?_;simp -implicitDefEqProofs;exact hR _ (.pure rfl (.refl _))
   ·obtain⟨hi,hl⟩:=jj z.im hz.2;refine⟨Lib.itoa z.im++[105],by rw[Nat.pow_succ];simp -implicitDefEqProofs;omega,?_⟩;refine ent Tryz.func106 fun L K hL hR hN hP=>?_;have hd:decide (z.im≠0)=true:=by simp -implicitDefEqProofs [h0]
    rw[hd] at hne;have c1:(Lib.itoa z.im).length+1<=9223372036854775807:=by omega
    simp -implicitDefEqProofs [Qh,hne,ti];refine Qc hi ?_;simp -implicitDefEqProofs [Qd,c1];exact hR _ (.pure rfl (.refl _))
 | @reg n w hw=>
   intro _;have hp:1<=2 ^ n:=Nat.one_le_two_pow;refine⟨w,by rw[Nat.pow_succ];omega,?_⟩;refine ent Tryz.func106 fun L K hL hR hN hP=>?_;simp -implicitDefEqProofs [Qh,wReg];exact hR _ (.pure rfl (.refl _))
 | @un n op a hop ha ih=>
   intro hn;obtain⟨b,hb,ih⟩:=ih (by omega);have hp:2 ^ n<=2 ^ 10:=Nat.pow_le_pow_right (by decide) (by omega);have hbl:b.length<=16000:=by omega
   simp -implicitDefEqProofs [unOps] at hop;have c1:2+b.length<=9223372036854775807:=by omega
   have c2:b.length+1+1+1<=9223372036854775807:=by omega
   rcases hop with rfl|rfl|rfl|rfl
   ·refine⟨[40,45]++b++[41],by rw[Nat.pow_succ];simp -implicitDefEqProofs;omega,?_⟩;refine ent Tryz.func106 fun L K hL hR hN hP=>?_;cases a;simp -implicitDefEqProofs [Qh,Qm];refine Qc ih ?_;simp -implicitDefEqProofs [Qd,c1,c2];exact hR _ (.pure rfl (by simp -implicitDefEqProofs;exact .refl _))
   ·refine⟨[40,126]++b++[41],by rw[Nat.pow_succ];simp -implicitDefEqProofs;omega,?_⟩;refine ent Tryz.func106 fun L K hL hR hN hP=>?_;cases a;simp -implicitDefEqProofs [Qh,Qm];refine Qc ih ?_;simp -implicitDefEqProofs [Qd,c1,c2];exact hR _ (.pure rfl (by simp -implicitDefEqProofs;exact .refl _))
   ·refine⟨[40,33]++b++[41],by rw[Nat.pow_succ];simp -implicitDefEqProofs;omega,?_⟩;refine ent Tryz.func106 fun L K hL hR hN hP=>?_;cases a;simp -implicitDefEqProofs [Qh,Qm];refine Qc ih ?_;simp -implicitDefEqProofs [Qd,c1,c2];exact hR _ (.pure rfl (by simp -implicitDefEqProofs;exact .refl _))
   ·refine⟨[40,35]++b++[41],by rw[Nat.pow_succ];simp -implicitDefEqProofs;omega,?_⟩;refine ent Tryz.func106 fun L K hL hR hN hP=>?_;cases a;simp -implicitDefEqProofs [Qh,Qm];refine Qc ih ?_;simp -implicitDefEqProofs [Qd,c1,c2];exact hR _ (.pure rfl (by simp -implicitDefEqProofs;exact .refl _))
 | @bin n op a c hop ha hc iha ihc=>
   intro hn;obtain⟨b,hb,iha⟩:=iha (by omega);obtain⟨d,hd,ihc⟩:=ihc (by omega);have hp:2 ^ n<=2 ^ 10:=Nat.pow_le_pow_right (by decide) (by omega);have hbl:b.length<=16000:=by omega
   have hdl:d.length<=16000:=by omega
   simp -implicitDefEqProofs [binOps] at hop;rcases hop with rfl|rfl|rfl|rfl|rfl|rfl
   ·refine⟨[40]++b++[32]++[43]++[32]++d++[41],by rw[Nat.pow_succ];simp -implicitDefEqProofs;omega,?_⟩;refine ent Tryz.func106 fun L K hL hR hN hP=>?_;cases a;cases c;simp -implicitDefEqProofs [Qh,Qm];refine Qc iha ?_;simp -implicitDefEqProofs [Qd]
    repeat (refine Wg (by omega) ?_;simp -implicitDefEqProofs)
    refine Qc ihc ?_;simp -implicitDefEqProofs
    repeat (refine Wg (by omega) ?_;simp -implicitDefEqProofs)
    exact hR _ (.pure rfl (by simp -implicitDefEqProofs;exact .refl _))
   ·refine⟨[40]++b++[32]++[45]++[32]++d++[41],by rw[Nat.pow_succ];simp -implicitDefEqProofs;omega,?_⟩;refine ent Tryz.func106 fun L K hL hR hN hP=>?_;cases a;cases c;simp -implicitDefEqProofs [Qh,Qm];refine Qc iha ?_;simp -implicitDefEqProofs [Qd]
    repeat (refine Wg (by omega) ?_;simp -implicitDefEqProofs)
    refine Qc ihc ?_;simp -implicitDefEqProofs
    repeat (refine Wg (by omega) ?_;simp -implicitDefEqProofs)
    exact hR _ (.pure rfl (by simp -implicitDefEqProofs;exact .refl _))
   ·refine⟨[40]++b++[32]++[42]++[32]++d++[41],by rw[Nat.pow_succ];simp -implicitDefEqProofs;omega,?_⟩;refine ent Tryz.func106 fun L K hL hR hN hP=>?_;cases a;cases c;simp -implicitDefEqProofs [Qh,Qm];refine Qc iha ?_;simp -implicitDefEqProofs [Qd]
    repeat (refine Wg (by omega) ?_;simp -implicitDefEqProofs)
    refine Qc ihc ?_;simp -implicitDefEqProofs
    repeat (refine Wg (by omega) ?_;simp -implicitDefEqProofs)
    exact hR _ (.pure rfl (by simp -implicitDefEqProofs;exact .refl _))
   ·refine⟨[40]++b++[32]++[61,61]++[32]++d++[41],by rw[Nat.pow_succ];simp -implicitDefEqProofs;omega,?_⟩;refine ent Tryz.func106 fun L K hL hR hN hP=>?_;cases a;cases c;simp -implicitDefEqProofs [Qh,Qm];refine Qc iha ?_;simp -implicitDefEqProofs [Qd]
    repeat (refine Wg (by omega) ?_;simp -implicitDefEqProofs)
    refine Qc ihc ?_;simp -implicitDefEqProofs
    repeat (refine Wg (by omega) ?_;simp -implicitDefEqProofs)
    exact hR _ (.pure rfl (by simp -implicitDefEqProofs;exact .refl _))
   ·refine⟨[40]++b++[32]++[33,61]++[32]++d++[41],by rw[Nat.pow_succ];simp -implicitDefEqProofs;omega,?_⟩;refine ent Tryz.func106 fun L K hL hR hN hP=>?_;cases a;cases c;simp -implicitDefEqProofs [Qh,Qm];refine Qc iha ?_;simp -implicitDefEqProofs [Qd]
    repeat (refine Wg (by omega) ?_;simp -implicitDefEqProofs)
    refine Qc ihc ?_;simp -implicitDefEqProofs
    repeat (refine Wg (by omega) ?_;simp -implicitDefEqProofs)
    exact hR _ (.pure rfl (by simp -implicitDefEqProofs;exact .refl _))
   ·refine⟨[40]++b++[32]++[60]++[32]++d++[41],by rw[Nat.pow_succ];simp -implicitDefEqProofs;omega,?_⟩;refine ent Tryz.func106 fun L K hL hR hN hP=>?_;cases a;cases c;simp -implicitDefEqProofs [Qh,Qm];refine Qc iha ?_;simp -implicitDefEqProofs [Qd]
    repeat (refine Wg (by omega) ?_;simp -implicitDefEqProofs)
    refine Qc ihc ?_;simp -implicitDefEqProofs
    repeat (refine Wg (by omega) ?_;simp -implicitDefEqProofs)
    exact hR _ (.pure rfl (by simp -implicitDefEqProofs;exact .refl _))
theorem ntext (z:Cx) (hz:Xg z):∃ b:Bs,b.length<=50/\Ql TC 37 [.cplx .f64 (fz z.re) (fz z.im)] (.str (bs b)):=by
 have ti:=ZQ (QD hz.2);have tr:=ZQ (QD hz.1);obtain⟨hi,hil⟩:=jj z.im hz.2;obtain⟨hr,hrl⟩:=jj z.re hz.1;by_cases h0:z.im=0
 ·have hb0:(z.im == 0)=true:=by simp[h0]
  refine⟨Lib.itoa z.re,by omega,?_⟩;refine ent Tryz.func37 fun L K hL hR hN hP=>?_;simp[tr,ti,hb0];refine Qc hr ?_;simp;exact hR _ (.pure rfl (.refl _))
 have hb0:(z.im == 0)=false:=by simp[h0]
 by_cases h1:z.re=0
 ·have hb1:(z.re == 0)=true:=by simp[h1]
  refine⟨Lib.itoa z.im++[105],by simp;omega,?_⟩;refine ent Tryz.func37 fun L K hL hR hN hP=>?_;simp[tr,ti,hb0,hb1];refine Qc hi ?_;simp[Qd]
  repeat (refine Wg (by omega) ?_;simp)
  exact hR _ (.pure rfl (.refl _))
 have hb1:(z.re == 0)=false:=by simp[h1]
 by_cases h2:0<z.im
 ·have hb2:decide (0<z.im)=true:=by simp[h2]
  refine⟨Lib.itoa z.re++[43]++Lib.itoa z.im++[105],by simp;omega,?_⟩;refine ent Tryz.func37 fun L K hL hR hN hP=>?_;simp[tr,ti,hb0,hb1,h2];refine Qc hr ?_;simp[Qd]
  repeat (refine Wg (by omega) ?_;simp)
  refine Qc hi ?_;simp
  repeat (refine Wg (by omega) ?_;simp)
  exact hR _ (.pure rfl (by simp;exact .refl _))
 ·refine⟨Lib.itoa z.re++Lib.itoa z.im++[105],by simp;omega,?_⟩;refine ent Tryz.func37 fun L K hL hR hN hP=>?_;simp[tr,ti,hb0,hb1,h2];refine Qc hr ?_;simp[Qd];refine Qc hi ?_;simp
  repeat (refine Wg (by omega) ?_;simp)
  exact hR _ (.pure rfl (by simp;exact .refl _))
def JY:Nat->St->Prop
 | 0,_=>False
 | n+1,.mk k reg name ix xs body els _=>(0<=k/\k<=16)/\reg.length<=1/\name.length<=2/\xs.length<=3/\(∀ e∈xs,Zm 3 e)/\(ix=true->xs≠[])/\(body.length<=1000/\els.length<=1000)/\(∀ s∈body,JY n s)/\∀ s∈els,JY n s
theorem wm {F:St->Bs} {B:Nat}:∀ (l:List St),(∀ s∈l,(F s).length<=B*cntS s)->(l.flatMap F).length<=B*cntL l
 | [],_=>by simp
 | s::r,h=>by
   rw[List.flatMap_cons,List.length_append,cntL,Nat.mul_add];have h1:=h s (by simp);have h2:=wm r fun x hx=>h x (by simp[hx]);omega
theorem vw:∀ (l:List St) (k:Nat),cntL (l.take k)<=cntL l
 | [],k=>by simp
 | s::r,0=>by simp[cntL]
 | s::r,k+1=>by
   rw[List.take_succ_cons,cntL,cntL];have:=vw r k;omega
theorem btext (l:List St) (hn:l.length<=1000) (hc:cntL l<=100000) (h:∀ s∈l,∃ b:Bs,b.length<=600*cntS s/\Ql TC 70 [We s] (.str (bs b))):
 ∃ b:Bs,b.length<=600*cntL l+4/\Ql TC 38 [.slice (Qr l)] (.str (bs b)):=by
 obtain⟨F,hF⟩:∃ F:St->Bs,∀ s∈l,(F s).length<=600*cntS s/\Ql TC 70 [We s] (.str (bs (F s))):=by
  have:∀ s:St,∃ b:Bs,s∈l->b.length<=600*cntS s/\Ql TC 70 [We s] (.str (bs b)):=fun s=>by
   by_cases hs:s∈l
   ·obtain⟨b,hb⟩:=h s hs;exact⟨b,fun _=>hb⟩
   ·exact⟨[],fun hs'=>absurd hs' hs⟩
  exact⟨fun s=>Classical.choose (this s),fun s=>Classical.choose_spec (this s)⟩
 have hfl:=wm l fun s hs=>(hF s hs).1;obtain⟨T0,hT0⟩:∃ T,l.flatMap F=T:=⟨_,rfl⟩
 rw[hT0] at hfl;refine⟨[32,123,10]++T0++[125],by simp;omega,?_⟩;refine ent Tryz.func38 fun L K hL hR hN hP=>?_;simp[Qd];refine QB (α:=Nat) (fun k=>k<=l.length) (fun k=>[(3,.str (bs ([32,123,10]++(l.take k).flatMap F))),(6,.slice (Qr l)),(7,.int .i64 l.length),(8,.int .i64 (k:Int))]) (fun _=>[]) (fun k=>l.length - k) 0 (by simp) (Qb (by simp[WG]) (by simp) (by simp)) ?_;rintro k L1 K1 hk hL1 - hnext hex hrt - -;simp;refine Qv.mk (fun hb=>?_) fun hb=>?_
 ·have hkl:k<l.length:=by simp at hb;omega
  obtain⟨x,hx⟩:=gE hkl;have b1':(0:Int)<=(k:Int):=by omega
  have b2':(k:Int)<l.length:=by omega
  have w1:=wr2 k;have hxm:=List.mem_of_getElem? hx;have hxs:(Qr l)[k]? = some (We x):=by rw[WG,List.getElem?_map,hx]<;>rfl
  have hkk:k<(Qr l).length:=by rw[WG];simpa using hkl
  obtain⟨hf1,hf2⟩:=hF x hxm;have htk:l.take (k+1)=l.take k++[x]:=by rw[List.take_succ,hx]<;>rfl
  have hlt:=wm (F:=F) (B:=600) (l.take k) fun s hs=>(hF s (List.mem_of_mem_take hs)).1;have hcx:(F x).length<=600*cntL l:=by
   have:=wm (F:=F) (B:=600) (l.take (k+1)) fun s hs=>(hF s (List.mem_of_mem_take hs)).1;have h2:=vw l (k+1);rw[htk,List.flatMap_append,List.length_append] at this;simp at this;rw[htk] at h2;omega
  have hct:=vw l k;obtain⟨T,hT⟩:∃ T,(l.take k).flatMap F=T:=⟨_,rfl⟩
  have hTl:T.length<=600*cntL l:=by rw[<- hT];omega
  rw[hT];have hxv:(Qr l)[k]=We x:=by rw[List.getElem?_eq_getElem hkk] at hxs;exact Option.some.inj hxs
  obtain⟨kd,reg,name,ix,xs,body,els,place⟩:=x;rw[We] at hxv hf2;simp[hkk,hxv,b1'];refine Qc hf2 ?_;simp
  repeat (refine Wg (by omega) ?_;simp[w1])
  exact hnext _ (k+1) (by omega) (by omega) (Qb (by simp[htk,hT]) (by simp) (by simp))
 ·have hkl:k=l.length:=by simp at hb;omega
  subst hkl;rw[List.take_length,hT0];simp;refine hex _ _ ?_;simp
  repeat (refine Wg (by omega) ?_;simp)
  exact hR _ (.pure rfl (by simp;exact .refl _))
def wP (k:Int) (reg name all bd el:Bs) (els0:Bool):Bs:=
 if k=0 then reg++[32,61,32]++all++[59,10]
 else if k=1∨k=8 then reg++[32,61,32]++Qy.getD k.toNat []++[32]++name++[59,10]
 else if k=3∨k=4∨k=5 then reg++[32,61,32]++Qy.getD k.toNat []++[32]++name++[44,32]++all++[59,10]
 else if k=2 then [115,116,111,114,101,32]++name++[44,32]++all++[59,10]
 else if k=13∨k=14 then Qy.getD k.toNat []++[32]++all++[59,10]
 else if k=15∨k=16 then Qy.getD k.toNat []++[32]++all++bd++(if els0 then [] else [32,101,108,115,101]++el)++[10]
 else Qy.getD k.toNat []++[32]++name++[59,10]
theorem kw_len (k:Int):(Qy.getD k.toNat []).length<=6:=by
 have:∀ w∈Qy,w.length<=6:=by decide
 rw[List.getD_eq_getElem?_getD];cases h:Qy[k.toNat]? with
 | none=>simp
 | some w=>exact this w (List.mem_of_getElem? h)
theorem QQw (k:Int) (reg name all bd el:Bs) (els0:Bool):(wP k reg name all bd el els0).length<=reg.length+name.length+all.length+bd.length+el.length+20:=by
 have h:=kw_len k;unfold wP;generalize Qy.getD k.toNat []=w at h ⊢;split
 ·simp;omega
 split
 ·simp;omega
 split
 ·simp;omega
 split
 ·simp;omega
 split
 ·simp;omega
 split
 ·split<;>simp<;>omega
 ·simp;omega
theorem texts_of {xs:List Ex} (h:∀ e∈xs,Zm 3 e):∃ F:Ex->Bs,∀ e∈xs,(F e).length<=112/\Ql TC 106 [Qh e] (.str (bs (F e))):=by
 have:∀ e:Ex,∃ b:Bs,e∈xs->b.length<=112/\Ql TC 106 [Qh e] (.str (bs b)):=fun e=>by
  by_cases he:e∈xs
  ·obtain⟨b,hb,hb2⟩:=etext 3 e (h e he) (by decide);exact⟨b,fun _=>⟨by omega,hb2⟩⟩
  ·exact⟨[],fun h2=>absurd h2 he⟩
 exact⟨fun e=>Classical.choose (this e),fun e=>Classical.choose_spec (this e)⟩
theorem stext0 (k:Int) (reg name:Bs) (ix:Bool) (xs:List Ex) (body els:List St) (place:Int) (hk:0<=k/\k<=16) (hrl:reg.length<=1) (hnl:name.length<=2) (hxl:xs.length<=3) (hxs:∀ e∈xs,Zm 3 e) (hix:ix=true->xs≠[])
 (bd el:Bs) (hbd:bd.length<=1000000000) (hel:el.length<=1000000000) (hB:15<=k->Ql TC 38 [.slice (Qr body)] (.str (bs bd))) (hE:15<=k->els≠[]->Ql TC 38 [.slice (Qr els)] (.str (bs el))):
 ∃ b:Bs,b.length<=560+bd.length+el.length/\Ql TC 70 [We (.mk k reg name ix xs body els place)] (.str (bs b)):=by
 obtain⟨F,hF⟩:=texts_of hxs;obtain⟨ts,hts⟩:∃ ts,xs.map F=ts:=⟨_,rfl⟩
 have htl:ts.length=xs.length:=by rw[<- hts];simp
 have htb:∀ t∈ts,t.length<=112:=fun t ht=>by
  rw[<- hts] at ht;obtain⟨e,he,rfl⟩:=List.mem_map.1 ht;exact (hF e he).1
 obtain⟨ts2,hts2⟩:∃ ts2,(if ix then ts.drop 1 else ts)=ts2:=⟨_,rfl⟩
 have htb2:∀ t∈ts2,t.length<=112:=fun t ht=>by
  rw[<- hts2] at ht;split at ht
  ·exact htb t (List.mem_of_mem_drop ht)
  ·exact htb t ht
 have htl2:ts2.length<=3:=by
  rw[<- hts2];split
  ·rw[List.length_drop];omega
  ·omega
 obtain⟨all,hall⟩:∃ all,Lib.join ts2 [44,32]=all:=⟨_,rfl⟩
 have hal:all.length<=342:=by
  rw[<- hall];have:=join_len ts2 [44,32] 112 htb2;simp at this;have h3:ts2.length*114<=3*114:=Nat.mul_le_mul_right _ htl2;omega
 have hJ:=Join_ok ts2 [44,32] (by omega) (by rw[hall];omega);rw[hall] at hJ;obtain⟨nm,hnm⟩:∃ nm:Bs,(if ix then name++[91]++ts.headD []++[93] else name)=nm:=⟨_,rfl⟩
 have hnml:nm.length<=116:=by
  rw[<- hnm];split
  ·have:(ts.headD []).length<=112:=by
    cases ts with
    | nil=>simp
    | cons t r=>exact htb t (by simp)
   generalize ts.headD []=q at this;simp;omega
  ·omega
 refine⟨wP k reg nm all bd el (els.isEmpty),by have:=QQw k reg nm all bd el els.isEmpty;omega,?_⟩;refine ADet.down (ex:=[1000026]) ?_;refine ent Tryz.func70 fun L K hL hR hN hP=>?_;simp[We];refine Qw (WM (t:=3) (el:=9) (sz:=1) (by simp) (by decide)) ?_;refine QB (α:=Nat) (fun j=>j<=xs.length) (fun j=>[(1,.ptr (L,0) 0),(3,.vec (L,1) j),(11,.slice (Qm xs)),(12,.int .i64 xs.length),(13,.int .i64 (j:Int))]) (fun j=>[((L,1),.vec 9 1 ((ts.take j).map encS) j true),((L,0),.cells 56 [.int .i64 k,.str (bs reg),.str (bs name),.bool ix,.slice (Qm xs),.slice (Qr body),.slice (Qr els),.int .i64 place])]) (fun j=>xs.length - j) 0 (by simp) (Qb (by simp[Wj]) (by simp) (by simp)) ?_;rintro j L1 K1 hj hL1 - hnext hex hrt - -;obtain⟨hLL,m4,m5⟩:=llu L hL1;simp;refine Qv.mk (fun hb=>?_) fun hb=>?_
 ·have hjl:j<xs.length:=by simp at hb;omega
  obtain⟨x,hx⟩:=gE hjl;have b1':(0:Int)<=(j:Int):=by omega
  have b2':(j:Int)<xs.length:=by omega
  have w1:=wr2 j;have hxm:=List.mem_of_getElem? hx;have hxs':(Qm xs)[j]? = some (Qh x):=by rw[Wj,List.getElem?_map,hx]<;>rfl
  have hkk:j<(Qm xs).length:=by rw[Wj];simpa using hjl
  have hxv:(Qm xs)[j]=Qh x:=by rw[List.getElem?_eq_getElem hkk] at hxs';exact Option.some.inj hxs'
  obtain⟨hf1,hf2⟩:=hF x hxm;have hpure:=Ql.up (ex:=[1000026]) hf2;have htj:ts[j]? = some (F x):=by rw[<- hts,List.getElem?_map,hx]<;>rfl
  have htk:ts.take (j+1)=ts.take j++[F x]:=by rw[List.take_succ,htj]<;>rfl
  have hmin:min j ts.length=j:=by omega
  obtain⟨xo,xn,xw,xp⟩:=x;rw[Qh] at hxv hpure;have c1:j<=9223372036854775806:=by omega
  have c2:(j+1)*16<=140737488355328:=by omega
  simp[hkk,hxv,b1'];refine Qc hpure ?_;simp[hmin,c1,c2,w1,m4];exact hnext _ (j+1) (by omega) (by omega) (Qb (by simp) (by simp[htk,encS]) (by simp[m4]))
 ·have hjl:j=xs.length:=by simp at hb;omega
  subst hjl;have htt:ts.take xs.length=ts:=by rw[<- htl];exact List.take_length
  have htt2:(ts.map encS).take xs.length=ts.map encS:=by rw[<- List.map_take,htt]
  simp[htt2];refine hex _ _ ?_;simp;have hst:(⟨0,0⟩:Nat × Nat)=(0,0):=rfl;refine Qw (Vg (τ':=[(1,.ptr (L,0) 0),(3,.slice (ts.map encS)),(6,.str (bs name)),(26,.bool ix)]) (σ':=[((L,0),.cells 56 [.int .i64 k,.str (bs reg),.str (bs name),.bool ix,.slice (Qm xs),.slice (Qr body),.slice (Qr els),.int .i64 place])])
   [((L,1),.vec 9 1 (ts.map encS) xs.length true)] [((L,0),.cells 56 [.int .i64 k,.str (bs reg),.str (bs name),.bool ix,.slice (Qm xs),.slice (Qr body),.slice (Qr els),.int .i64 place])] ?_ ?_ ?_ ?_ ?_ ?_) ?_
  ·simp;exact⟨.refl _,.vec (t:=9) (s:=1) (es:=ts.map encS) (wr:=true) (by simp[Qa.get]) (Qn _),.refl _,.refl _⟩
  ·simp
  ·simp
  ·simp[Qa.keys]
  ·simp[Qa.keys]
  ·exact .refl _
  refine Yh (α:=Unit) (fun _=>True) (fun _=>[(1,.ptr (L,0) 0),(3,.slice (ts2.map encS)),(6,.str (bs nm))]) (fun _=>[((L,0),.cells 56 [.int .i64 k,.str (bs reg),.str (bs name),.bool ix,.slice (Qm xs),.slice (Qr body),.slice (Qr els),.int .i64 place])]) 2 ?_ ?_
  ·intro K3 hnext3 hex3 hrt3 hgo3 hpn3;cases ix with
   | true=>
     obtain⟨t0,tr,rfl⟩:∃ t0 tr,ts=t0::tr:=by
      cases ts with
      | nil=>exact absurd (List.eq_nil_of_length_eq_zero (by simpa using htl.symm)) (hix rfl)
      | cons a b=>exact⟨a,b,rfl⟩
     have h112:=htb t0 (by simp);have hnm2:nm=name++[91]++t0++[93]:=by rw[<- hnm]<;>rfl
     have hts3:ts2=tr:=by rw[<- hts2]<;>rfl
     simp[Qd]
     repeat (refine Wg (by omega) ?_;simp)
     have htk:(tr.map encS).take tr.length=tr.map encS:=List.take_of_length_le (by simp);exact hnext3 _ () trivial (Qi (by simp) (by simp[htk,hnm2,hts3]) (by simp) (by simp))
   | false=>
     have hnm2:nm=name:=by rw[<- hnm]<;>rfl
     have hts3:ts2=ts:=by rw[<- hts2]<;>rfl
     simp;exact hnext3 _ () trivial (Qi (by simp) (by simp[hnm2,hts3]) (by simp) (by simp))
  ·rintro⟨⟩ -;simp;refine Qc (Ql.up (ex:=[1000026]) hJ) ?_;simp[Qd];refine Wg (by decide) ?_;have hk17:k=0∨k=1∨k=2∨k=3∨k=4∨k=5∨k=6∨k=7∨k=8∨k=9∨k=10∨k=11∨k=12∨k=13∨k=14∨k=15∨k=16:=by omega
   rcases hk17 with rfl|rfl|rfl|rfl|rfl|rfl|rfl|rfl|rfl|rfl|rfl|rfl|rfl|rfl|rfl|rfl|rfl
   all_goals
    first
     | (simp
        repeat (refine Wg (by omega) ?_;simp)
        exact hR _ (.pure (by simp[Qf,Qj];rfl) (by simp[wP,Qy];exact .refl _)))
     | skip
   all_goals
    simp
    repeat (refine Wg (by omega) ?_;simp)
   all_goals
    refine Qc (Ql.up (ex:=[1000026]) (hB (by decide))) ?_;simp
    repeat (refine Wg (by omega) ?_;simp)
    cases els with
    | nil=>
      simp[Qr]
      repeat (refine Wg (by omega) ?_;simp)
      exact hR _ (.pure (by simp[Qf,Qj];rfl) (by simp[wP,Qy];exact .refl _))
    | cons s0 sr=>
      have hel1:(Qr (s0::sr)).length=sr.length+1:=by rw[WG];simp
      have hEl:=Ql.up (ex:=[1000026]) (hE (by decide) (by simp));generalize Qr (s0::sr)=el0 at hel1 hEl ⊢;have hgt:(0:Int)<(el0.length:Int):=by omega
      have hgt2:0<el0.length:=by omega
      simp[hgt2];refine Qc hEl ?_;simp
      repeat (refine Wg (by omega) ?_;simp)
      exact hR _ (.pure (by simp[Qf,Qj];rfl) (by simp[wP,Qy];exact .refl _))
theorem stext:∀ (n:Nat) (s:St),JY n s->cntS s<=100000->∃ b:Bs,b.length<=600*cntS s/\Ql TC 70 [We s] (.str (bs b))
 | 0,_,h,_=>h.elim
 | n+1,.mk k reg name ix xs body els place,h,hc=>by
   obtain⟨h1,h2,h3,h4,h5,h6,h7,h8,h9⟩:=h;rw[cntS] at hc ⊢;have cnt_mem:∀ (l:List St) (s:St),s∈l->cntS s<=cntL l:=fun l=>by
    induction l with
    | nil=>intro s hs;cases hs
    | cons x r ih=>
      intro s hs;rw[cntL];rcases List.mem_cons.1 hs with rfl|hs
      ·omega
      ·have:=ih s hs;omega
   obtain⟨bd,hbl,hbd⟩:=btext body h7.1 (by omega) fun s hs=>stext n s (h8 s hs) (by have:=cnt_mem _ _ hs;omega);obtain⟨el,hel,hed⟩:=btext els h7.2 (by omega) fun s hs=>stext n s (h9 s hs) (by have:=cnt_mem _ _ hs;omega);obtain⟨b,hb,hp⟩:=stext0 k reg name ix xs body els place h1 h2 h3 h4 h5 h6 bd el (by omega) (by omega) (fun _=>hbd) (fun _ _=>hed);exact⟨b,by omega,hp⟩
structure GoodD (d:Dc):Prop where
 sort:0<=d.sort/\d.sort<=5
 name:d.name.length<=2
 num:Xg d.num
 len:d.body.length<=1000
 body:∀ s∈d.body,JY 5 s
def cntD:List Dc->Nat
 | []=>0
 | d::r=>1+cntL d.body+cntD r
def UB (d:Dc) (num bl:Bs):Bs:=
 if d.sort=0 then [99,101,108,108,32]++d.name++[32]++num++[59,10]
 else if d.sort=1 then [97,114,114,97,121,32]++d.name++[32]++num++[59,10]
 else if d.sort=2 then [109,117,116,101,120,32]++d.name++[59,10]
 else if d.sort=3 then [115,101,109,32]++d.name++[32]++num++[59,10]
 else if d.sort=4 then [98,117,100,103,101,116,32]++num++[59,10]
 else [116,104,114,101,97,100,32]++d.name++bl++[10]
theorem dText_len (d:Dc) (num bl:Bs):(UB d num bl).length<=d.name.length+num.length+bl.length+20:=by
 unfold UB;split
 ·simp -implicitDefEqProofs;omega
 split
 ·simp -implicitDefEqProofs;omega
 split
 ·simp -implicitDefEqProofs;omega
 split
 ·simp -implicitDefEqProofs;omega
 split
 ·simp -implicitDefEqProofs;omega
 ·simp -implicitDefEqProofs;omega
theorem vy:∀ {l:List Dc} {d:Dc},d∈l->1+cntL d.body<=cntD l
 | x::r,d,h=>by
   rw[cntD];rcases List.mem_cons.1 h with rfl|h
   ·omega
   ·have:=vy h;omega
theorem zg {F:Dc->Bs}:∀ (l:List Dc),(∀ d∈l,(F d).length<=600*(1+cntL d.body))->(l.flatMap F).length<=600*cntD l
 | [],_=>by simp -implicitDefEqProofs
 | s::r,h=>by
   rw[List.flatMap_cons,List.length_append,cntD];have h1:=h s (by simp -implicitDefEqProofs);have h2:=zg r fun x hx=>h x (by simp -implicitDefEqProofs [hx]);omega
theorem yj:∀ (l:List Dc) (k:Nat),cntD (l.take k)<=cntD l
 | [],k=>by simp -implicitDefEqProofs
 | s::r,0=>by simp -implicitDefEqProofs [cntD]
 | s::r,k+1=>by
   rw[List.take_succ_cons,cntD,cntD];have:=yj r k;omega
theorem ttext (ds:List Dc) (hg:∀ d∈ds,GoodD d) (hn:ds.length<=1000) (hc:cntD ds<=500):∃ b:Bs,b.length<=300000/\Ql TC 24 [.agg [.slice (ds.map QO)]] (.str (bs b)):=by
 obtain⟨F,hF⟩:∃ F:Dc->Bs,∀ d∈ds,∃ num bl,num.length<=50/\bl.length<=600*cntL d.body+4/\F d=UB d num bl/\Ql TC 37 [.cplx .f64 (fz d.num.re) (fz d.num.im)] (.str (bs num))/\Ql TC 38 [.slice (Qr d.body)] (.str (bs bl)):=by
  have:∀ d:Dc,∃ b:Bs,d∈ds->∃ num bl,num.length<=50/\bl.length<=600*cntL d.body+4/\b=UB d num bl/\Ql TC 37 [.cplx .f64 (fz d.num.re) (fz d.num.im)] (.str (bs num))/\Ql TC 38 [.slice (Qr d.body)] (.str (bs bl)):=fun d=>by
   by_cases hd:d∈ds
   ·have g:=hg d hd;have hm:=vy hd;obtain⟨num,hn1,hn2⟩:=ntext d.num g.num;have cnt_mem:∀ (l:List St) (s:St),s∈l->cntS s<=cntL l:=fun l=>by
     induction l with
     | nil=>intro s hs;cases hs
     | cons x r ih=>
       intro s hs;rw[cntL];rcases List.mem_cons.1 hs with rfl|hs
       ·omega
       ·have:=ih s hs;omega
    obtain⟨bl,hb1,hb2⟩:=btext d.body g.len (by omega) fun s hs=>stext 5 s (g.body s hs) (by have:=cnt_mem _ _ hs;omega);exact⟨_,fun _=>⟨num,bl,hn1,hb1,rfl,hn2,hb2⟩⟩
   ·exact⟨[],fun hd'=>absurd hd' hd⟩
  exact⟨fun s=>Classical.choose (this s),fun s=>Classical.choose_spec (this s)⟩
 have hFl:∀ d∈ds,(F d).length<=600*(1+cntL d.body):=fun d hd=>by
  obtain⟨num,bl,h1,h2,h3,_⟩:=hF d hd;have:=dText_len d num bl;have:=(hg d hd).name;rw[h3];omega
 have hfl:=zg ds hFl;obtain⟨T0,hT0⟩:∃ T,ds.flatMap F=T:=⟨_,rfl⟩
 rw[hT0] at hfl;refine⟨T0,by omega,?_⟩;refine ent Tryz.func24 fun L K hL hR hN hP=>?_;simp -implicitDefEqProofs [Qd];refine QB (α:=Nat) (fun k=>k<=ds.length) (fun k=>[(3,.str (bs ((ds.take k).flatMap F))),(7,.slice (ds.map QO)),(8,.int .i64 ds.length),(9,.int .i64 (k:Int))]) (fun _=>[]) (fun k=>ds.length - k) 0 (by simp -implicitDefEqProofs) twk ?_;rintro k L1 K1 hk hL1 - hnext hex hrt - -;simp -implicitDefEqProofs;refine Qv.mk (fun hb=>?_) fun hb=>?_
 ·have hkl:k<ds.length:=by simp -implicitDefEqProofs at hb;omega
  obtain⟨d,hd2⟩:=gE hkl;have e1:(0:Int)<=(k:Int):=by omega
  have e2:(k:Int)<ds.length:=by omega
  have w1:=wr2 k;have hdm:=List.mem_of_getElem? hd2;have g:=hg d hdm;obtain⟨num,bl,q1,q2,q3,q4,q5⟩:=hF d hdm;have hnm:=g.name;have hsrt:=g.sort;have htk:ds.take (k+1)=ds.take k++[d]:=by rw[List.take_succ,hd2]<;>rfl
  have hlt:=zg (F:=F) (ds.take k) fun s hs=>hFl s (List.mem_of_mem_take hs);have hct:=yj ds k;have hcm:=vy hdm;obtain⟨T,hT⟩:∃ T,(ds.take k).flatMap F=T:=⟨_,rfl⟩
  have hTl:T.length<=600*cntD ds:=by rw[<- hT];omega
  have hnx:(ds.take (k+1)).flatMap F=T++UB d num bl:=by rw[htk,List.flatMap_append,hT];simp -implicitDefEqProofs [q3]
  rw[hT];simp -implicitDefEqProofs [e1,hd2,QO,Qu];have h6:d.sort=0∨d.sort=1∨d.sort=2∨d.sort=3∨d.sort=4∨d.sort=5:=by omega
  rcases h6 with h|h|h|h|h|h
  ·simp -implicitDefEqProofs [h]
   repeat (refine Wg (by omega) ?_;simp -implicitDefEqProofs)
   refine Qc q4 ?_;simp -implicitDefEqProofs
   repeat (refine Wg (by omega) ?_;simp -implicitDefEqProofs [w1])
   exact hnext _ (k+1) (by omega) (by omega) (Qb (by simp -implicitDefEqProofs [hnx,UB,h]) (by simp -implicitDefEqProofs) (by simp -implicitDefEqProofs))
  ·simp -implicitDefEqProofs [h]
   repeat (refine Wg (by omega) ?_;simp -implicitDefEqProofs)
   refine Qc q4 ?_;simp -implicitDefEqProofs
   repeat (refine Wg (by omega) ?_;simp -implicitDefEqProofs [w1])
   exact hnext _ (k+1) (by omega) (by omega) (Qb (by simp -implicitDefEqProofs [hnx,UB,h]) (by simp -implicitDefEqProofs) (by simp -implicitDefEqProofs))
  ·simp -implicitDefEqProofs [h]
   repeat (refine Wg (by omega) ?_;simp -implicitDefEqProofs [w1])
   exact hnext _ (k+1) (by omega) (by omega) (Qb (by simp -implicitDefEqProofs [hnx,UB,h]) (by simp -implicitDefEqProofs) (by simp -implicitDefEqProofs))
  ·simp -implicitDefEqProofs [h]
   repeat (refine Wg (by omega) ?_;simp -implicitDefEqProofs)
   refine Qc q4 ?_;simp -implicitDefEqProofs
   repeat (refine Wg (by omega) ?_;simp -implicitDefEqProofs [w1])
   exact hnext _ (k+1) (by omega) (by omega) (Qb (by simp -implicitDefEqProofs [hnx,UB,h]) (by simp -implicitDefEqProofs) (by simp -implicitDefEqProofs))
  ·simp -implicitDefEqProofs [h]
   repeat (refine Wg (by omega) ?_;simp -implicitDefEqProofs [Qd,w1])
   refine Qc q4 ?_;simp -implicitDefEqProofs
   repeat (refine Wg (by omega) ?_;simp -implicitDefEqProofs [w1])
   exact hnext _ (k+1) (by omega) (by omega) (Qb (by simp -implicitDefEqProofs [hnx,UB,h]) (by simp -implicitDefEqProofs) (by simp -implicitDefEqProofs))
  ·simp -implicitDefEqProofs [h]
   repeat (refine Wg (by omega) ?_;simp -implicitDefEqProofs)
   refine Qc q5 ?_;simp -implicitDefEqProofs
   repeat (refine Wg (by omega) ?_;simp -implicitDefEqProofs [w1])
   exact hnext _ (k+1) (by omega) (by omega) (Qb (by simp -implicitDefEqProofs [hnx,UB,h]) (by simp -implicitDefEqProofs) (by simp -implicitDefEqProofs))
 ·have hkl:k=ds.length:=by simp -implicitDefEqProofs at hb;omega
  subst hkl;rw[List.take_length,hT0];simp -implicitDefEqProofs;refine hex _ _ ?_;simp -implicitDefEqProofs;exact hR _ (.pure rfl (by simp -implicitDefEqProofs;exact .refl _))
end Go.Awp.R1
