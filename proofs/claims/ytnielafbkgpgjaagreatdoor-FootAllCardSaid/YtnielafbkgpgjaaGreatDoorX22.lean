/- The plain law, text S6: numerals. No program is in sight. -/
import Derived.Test.YtnielafbkgpgjaaGreatDoorX16
import Derived.Lib.ItoaNum
import Derived.Lib.ParseIntBCases
import Derived.Lib.ParseIntBTie
import Derived.Tactics2
import Derived.ScopeJumps
set_option linter.all false
set_option maxRecDepth 100000
set_option maxHeartbeats 8000000
namespace Go.Awp.Sp
def dF (acc:Nat) (ds:Bs):Nat:=ds.foldl (fun n c=>10*n+(c.toNat - 48)) acc
theorem dF_ge (ds:Bs):∀ acc,acc<=dF acc ds:=by
 induction ds with
 | nil=>intro acc;exact Nat.le_refl _
 | cons c ds ih=>
   intro acc;have:=ih (10*acc+(c.toNat - 48));show acc<=dF (10*acc+(c.toNat - 48)) ds;omega
def isD (c:UInt8):Prop:=48<=c.toNat/\c.toNat<=57
theorem ub (M:Nat) (hM:M<1844674407370955162) (ds:Bs) (hd:∀ c∈ds,isD c):∀ acc,acc<=M->Lib.parseUintM M acc ds=if dF acc ds<=M then .ok (dF acc ds) else .range:=by
 induction ds with
 | nil=>intro acc h;simp[Lib.parseUintM,dF,h]
 | cons c ds ih=>
   intro acc h;have hc:48<=c.toNat/\c.toNat<=57:=hd c (by simp);unfold Lib.parseUintM;rw[if_pos hc,if_neg (by omega)];have e:acc*10+(c.toNat - 48)=10*acc+(c.toNat - 48):=by omega
   rw[e];show (if M<_ then _ else _)=if dF (10*acc+(c.toNat - 48)) ds<=M then _ else _
   by_cases h1:M<10*acc+(c.toNat - 48)
   ·have:=dF_ge ds (10*acc+(c.toNat - 48));rw[if_pos h1,if_neg (by omega)]
   ·rw[if_neg h1,ih (fun c hc=>hd c (by simp[hc])) _ (by omega)];rfl
theorem zX (c:UInt8) (r:Bs) (hd:∀ x∈c::r,isD x):Lib.parseIntB 32 (c::r)=if Qt (c::r)<2147483648 then .ok (Qt (c::r):Int) else .range:=by
 have hc:=hd c (by simp);unfold isD at hc;rw[Lib.parseIntB_plain 32 c r (by omega) (by omega)];unfold Lib.parseUintB;rw[if_neg (by simp),ub _ (by decide) _ hd 0 (by omega)];have e:dF 0 (c::r)=Qt (c::r):=rfl;rw[e];generalize Qt (c::r)=n;by_cases h:n<=2 ^ 32 - 1
 ·rw[if_pos h];simp only[Lib.signlessC];by_cases h2:n<2147483648
  ·rw[if_pos h2];simp[h2]
  ·rw[if_neg h2];have:2147483648<=n:=by omega
   simp[this]
 ·rw[if_neg h,if_neg (by omega)];rfl
theorem zT (ds:Bs) (c:UInt8):Qt (ds++[c])=10*Qt ds+(c.toNat - 48):=by simp[Qt]
theorem Qmq {α:Type} {p:List α->Prop} (h0:p []) (h1:∀ l x,p l->p (l++[x])) (l:List α):p l:=by
 rw[<- List.reverse_reverse l]
 induction l.reverse with
 | nil=>exact h0
 | cons x r ih=>rw[List.reverse_cons];exact h1 _ _ ih
theorem Qcw (ds:Bs):(∀ c∈ds,isD c)->∀ c,ds.head? = some c->c≠48->10 ^ (ds.length - 1)<=Qt ds:=by
 induction ds using Qmq with
 | h0=>intro _ c h;cases h
 | h1 l x ih=>
   intro hd c hh hc;rw[zT];cases l with
   | nil=>
     simp at hh;subst hh;have:=hd x (by simp);unfold isD at this;have h48:x.toNat≠48:=fun e=>hc (UInt8.toNat_inj.1 e);simp[Qt];omega
   | cons y l=>
     have:=ih (fun c hc=>hd c (by simp at hc ⊢;rcases hc with h|h<;>simp[h])) c (by simpa using hh) hc;simp only[List.length_append,List.length_cons,List.length_nil,Nat.add_sub_cancel] at this ⊢;simp only[Nat.pow_succ] at this ⊢;omega
theorem vu (ds:Bs):(∀ c∈ds,isD c)->ds≠[]->¬ (1<ds.length/\ds.head? = some 48)->Lib.decDigits (Qt ds)=ds:=by
 induction ds using Qmq with
 | h0=>intro _ h;exact absurd rfl h
 | h1 l x ih=>
   intro hd _ hz;have hx:=hd x (by simp);unfold isD at hx;have hxx:UInt8.ofNat (48+(x.toNat - 48))=x:=by
    rw[show 48+(x.toNat - 48)=x.toNat by omega];simp
   rw[zT];cases l with
   | nil=>
     rw[show Qt ([]:Bs)=0 from rfl,Lib.decDigits,dif_pos (by omega)];simp[hxx]
   | cons y l=>
     have hl:∀ c∈y::l,isD c:=fun c hc=>hd c (by simp at hc ⊢;rcases hc with h|h<;>simp[h]);have hy:y≠48:=fun e=>hz ⟨by simp,by simp[e]⟩;have hlow:=Qcw (y::l) hl y rfl hy;have hp:0<10 ^ ((y::l).length - 1):=Nat.pow_pos (by decide);rw[Lib.decDigits,dif_neg (by omega)];rw[show (10*Qt (y::l)+(x.toNat - 48)) / 10=Qt (y::l) by omega,show (10*Qt (y::l)+(x.toNat - 48)) % 10=x.toNat - 48 by omega];rw[ih hl (by simp) (fun h=>hy (by simpa using h.2)),hxx]
theorem vt (u:Nat):u≠0->(Lib.decDigits u).head?≠some 48:=by
 induction u using Nat.strongRecOn with
 | _ u ih=>
   intro h0;rw[Lib.decDigits];split
   ·rename_i h;simp only[List.head?_cons,ne_eq,Option.some.injEq];intro e;have:=congrArg UInt8.toNat e;simp at this;omega
   ·have:=ih (u / 10) (by omega) (by omega);rw[List.head?_append];cases hq:(Lib.decDigits (u / 10)).head? with
    | none=>
      have:Lib.decDigits (u / 10)=[]:=List.head?_eq_none_iff.1 hq;have hl:=congrArg List.length this;rw[Lib.decDigits] at hl;split at hl<;>simp at hl
    | some c=>rw[hq] at this;simpa using this
theorem zZ (ds:Bs) (hd:∀ c∈ds,isD c) (h0:ds≠[]):(Lib.decDigits (Qt ds) == ds) = !(decide (1<ds.length)&&ds.head? == some 48):=by
 by_cases hz:1<ds.length/\ds.head? = some 48
 ·have h1:¬ Lib.decDigits (Qt ds)=ds:=fun e=>by
   by_cases hu:Qt ds=0
   ·rw[hu,Lib.decDigits,dif_pos (by omega)] at e;rw[<- e] at hz;simp at hz
   ·exact vt _ hu (by rw[e];exact hz.2)
  simp[h1,hz.1,hz.2]
 ·have h1:=vu ds hd h0 hz;rw[h1];have:(decide (1<ds.length)&&ds.head? == some 48)=false:=by
   rw[Bool.and_eq_false_iff];by_cases h2:1<ds.length
   ·right;simp;intro h3;exact hz ⟨h2,h3⟩
   ·left;simp;omega
  rw[this];simp
def Yi (ds:Bs):Bool:=!(decide (1<ds.length)&&ds.head? == some 48)&&decide (Qt ds<=1048576)
theorem Qtw (ds:Bs) (hd:∀ c∈ds,isD c) (h0:ds≠[]):numOf ds false=if Yi ds=true then some ⟨Qt ds,0⟩ else none:=by
 unfold numOf Yi;by_cases hz:1<ds.length/\ds.head? = some 48
 ·simp[hz.1,hz.2]
 ·have h1:¬ (7<ds.length)∨1048576<Qt ds:=by
   by_cases h7:7<ds.length
   ·right;obtain⟨c,r,rfl⟩:=List.exists_cons_of_ne_nil h0;have:=Qcw (c::r) hd c rfl (fun e=>hz ⟨by omega,by simp[e]⟩);have h8:10 ^ 7<=10 ^ ((c::r).length - 1):=Nat.pow_le_pow_right (by decide) (by omega);simp only[Nat.reducePow] at h8;omega
   ·exact .inl h7
  by_cases hg:1048576<Qt ds
  ·have:¬ Qt ds<=1048576:=by omega
   simp[hg,this]
  ·have h7:¬ 7<ds.length:=by omega
   have hl:Qt ds<=1048576:=by omega
   have hz':1<ds.length->¬ ds.head? = some 48:=fun h e=>hz ⟨h,e⟩;by_cases h2:1<ds.length
   ·simp[h7,hg,hl,h2,hz' h2]
   ·simp[h7,hg,hl,h2]
theorem numOf_im (ds:Bs) (hd:∀ c∈ds,isD c) (h0:ds≠[]):numOf ds true=if Yi ds=true/\Qt ds≠0 then some ⟨0,Qt ds⟩ else none:=by
 have hre:=Qtw ds hd h0;unfold numOf at hre ⊢;by_cases h48:ds.head? = some 48
 ·have hn:¬ (Yi ds=true/\Qt ds≠0):=by
   rintro⟨h1,h2⟩;unfold Yi at h1;by_cases hl:1<ds.length
   ·simp[hl,h48] at h1
   ·obtain⟨c,r,rfl⟩:=List.exists_cons_of_ne_nil h0;have:r=[]:=List.eq_nil_of_length_eq_zero (by simp at hl;exact List.length_eq_zero_iff.2 hl);subst this;simp at h48;subst h48;exact h2 rfl
  rw[if_neg hn];simp[h48]
 ·have hpos:Qt ds≠0:=by
   obtain⟨c,r,rfl⟩:=List.exists_cons_of_ne_nil h0;have:=Qcw (c::r) hd c rfl (fun e=>h48 (by simp[e]));have hp:0<10 ^ ((c::r).length - 1):=Nat.pow_pos (by decide);omega
  simp only[h48,and_false,or_false,Bool.false_eq_true] at hre ⊢;have e1:(7<ds.length∨(1<ds.length∨True)/\False)=(7<ds.length):=by simp
  have e2:(7<ds.length∨(1<ds.length∨False)/\False)=(7<ds.length):=by simp
  by_cases h7:7<ds.length
  ·simp only[h7,if_true] at hre ⊢;by_cases hw:Yi ds=true
   ·rw[if_pos hw] at hre;cases hre
   ·rw[if_neg (fun h=>hw h.1)]
  ·simp only[h7,if_false] at hre ⊢;by_cases hg:1048576<Qt ds
   ·simp only[hg,if_true] at hre ⊢;by_cases hw:Yi ds=true
    ·rw[if_pos hw] at hre;cases hre
    ·rw[if_neg (fun h=>hw h.1)]
   ·simp only[hg,if_false] at hre ⊢;by_cases hw:Yi ds=true
    ·simp[hw,hpos]
    ·rw[if_neg hw] at hre;cases hre
end Go.Awp.Sp
namespace Go.Awp.R1
open Go Go.Awp Go.Proofs Go.Awp.Sp
section
variable {P:Program} {ops:Array Oper} {Q:Exit->Act->World->Prop} {i:Nat} {rest:List Nat} {a:Act} {w:World} {o:Oper} {v:Value}
theorem XV (ho:ops[i]? = some o) (hg:o.guard=none) (hr:(execOp a.eval o).run P w = .ok (.value v) w) (h:wpOps P ops Q rest (a.put o.dst v) w):wpOps P ops Q (i::rest) a w:=by
 unfold wpOps;rw[ho];simp only;rw[if_pos (by simp[Region.wanted,hg])];left;unfold Oper.wp;rw[hr];exact h
theorem qw {f:FuncId} {fn:Func} {e:Array Value->Sem Value} (hf:P.funcs[f]? = some fn) (hname:(fn.name == "runtime.NumGoroutine")=false) (hb:fn.body.isNone=true) (hn:Extern.findNext fn=none) (he:Extern.find fn=some e)
 {args:Array Value} {cv:Value} (hr:(e args).run P w = .ok cv w):(callFunc f args).run P w = .ok (.value cv) w:=by
 have hn':¬ fn.name = "runtime.NumGoroutine":=fun e=>by rw[e] at hname;simp at hname
 unfold callFunc;simp only[Sem.run_bind];rw[show (program:Sem Program).run P w = .ok P w from rfl];simp only[Result.andThen_ok,hf];rw[if_neg (by simpa using hn'),if_pos hb];simp only[Sem.run_bind];rw[show (mark (.extern f)).run P w = .ok () w from rfl];simp only[Result.andThen_ok,hn,he,Sem.run_bind,hr,Sem.run_pure]
theorem VB {f:FuncId} {xs:Array Operand} {ats:Array TypeId} {dst:Option Tmp} {type:TypeId} {pos:String} {after:Array Edge} {guard:Option (Nat × Bool)} {cv:Value} {args:Array Value} (h:(callFunc f args).run P w = .ok (.value cv) w) (hx:xs.map a.eval=args):
 (execOp a.eval ⟨dst,.call { callee:=.value (.func f),args:=xs,argTypes:=ats },type,pos,after,guard⟩).run P w = .ok (.value cv) w:=by
 subst hx;have e:execOp a.eval ⟨dst,.call { callee:=.value (.func f),args:=xs,argTypes:=ats },type,pos,after,guard⟩=(do let d <- resolve a.eval { callee:=.value (.func f),args:=xs,argTypes:=ats } type;invoke d.target d.args):=rfl;rw[e];simp only[resolve,Sem.run_bind];have e2:a.eval (.func f) = .func (.func f) #[] #[]:=rfl;simp only[e2,Deferred.ofValue,invoke];simpa using h
end
theorem bits_run (x:Nat) (w:World):(callFunc 194 #[.float .f64 x]).run Tryz.prog w = .ok (.value (.int .u64 x)) w:=
 qw Tryz.func194 (by decide) rfl (by kernel_rfl) (e:=Extern.MathFloatBits.float64bits) (by kernel_rfl) rfl
theorem Qaq (x:Int) (w:World):(callFunc 193 #[.int .u64 x]).run Tryz.prog w = .ok (.value (.float .f64 x.toNat)) w:=
 qw Tryz.func193 (by decide) rfl (by kernel_rfl) (e:=Extern.MathFloatBits.float64frombits) (by kernel_rfl) rfl
theorem abs_bits (x:Nat) (hx:x<2 ^ 64):bitI .andNot .u64 x 9223372036854775808=((x % 2 ^ 63:Nat):Int):=by
 have e2:(BitVec.ofInt 64 (x:Int) &&& ~~~(BitVec.ofInt 64 9223372036854775808)).toNat=x % 2 ^ 63:=by
  have e1: ~~~(BitVec.ofInt 64 9223372036854775808)=BitVec.ofNat 64 (2 ^ 63 - 1):=by decide
  rw[e1,BitVec.toNat_and,BitVec.toNat_ofNat,Nat.mod_eq_of_lt (by decide:2 ^ 63 - 1<2 ^ 64),Nat.and_two_pow_sub_one_eq_mod];have:(BitVec.ofInt 64 (x:Int)).toNat=x:=by
   rw[BitVec.ofInt_natCast,BitVec.toNat_ofNat,Nat.mod_eq_of_lt hx]
  rw[this]
 show IntKind.u64.wrap ((BitVec.ofInt 64 (x:Int) &&& ~~~(BitVec.ofInt 64 9223372036854775808)).toNat:Int)=_;rw[e2];have h3:x % 2 ^ 63<2 ^ 63:=Nat.mod_lt _ (by decide);generalize x % 2 ^ 63=y at h3;simp only[Nat.reducePow] at h3;simp[IntKind.wrap,IntKind.bits,IntKind.signed];omega
theorem Qfw {α β γ:Type} {r:Result α} {f:α->World->Result β} {g:β->World->Result γ} {v:β} {w:World} (h:r.andThen f = .ok v w):r.andThen (fun a w'=>(f a w').andThen g)=g v w:=by
 cases r with
 | ok a w'=>simp only[Result.andThen_ok] at h ⊢;rw[h];rfl
 | _=>cases h
theorem and_run (x:Nat) (hx:x<2 ^ 64) (y1 y2:Operand) (w:World):(do eqGuard .andNot 61 y1 y2 (.int .u64 x) (.int .u64 9223372036854775808);binOp .andNot 61 (.int .u64 x) (.int .u64 9223372036854775808):Sem Value).run Tryz.prog w = .ok (.int .u64 (x % 2 ^ 63:Nat)) w:=by
 have h:binV TC.P (isC y1||isC y2) .andNot 61 (.int .u64 x) (.int .u64 9223372036854775808)=some (.int .u64 ((x % 2 ^ 63:Nat):Int)):=by
  have e:binV TC.P (isC y1||isC y2) .andNot 61 (.int .u64 x) (.int .u64 9223372036854775808)=some (.int .u64 (bitI .andNot .u64 x 9223372036854775808)):=rfl;rw[e,abs_bits x hx]
 obtain⟨cv,h1,h2⟩:=vG (E:=Amb.start w) (x:=y1) (y:=y2) h (.int _ _) (.int _ _) w;cases h2;exact h1
theorem Abs_ok (x y:Nat) (hx:x<2 ^ 64) (hy:x % 2 ^ 63=y):Ql TC 176 [.float .f64 x] (.float .f64 y):=by
 refine Yx ⟨_,Tryz.func176,rfl,by decide⟩ fun E cargs hg ha=>?_;have:cargs=[.float .f64 x]:=by cases ha with|cons h t=>cases t;cases h;rfl
 rw[this];generalize E.w=w;refine Calls.mono (R:=fun e w'=>e = .returned (.float .f64 y)/\w' = w) ?_ (by
  rintro e w' ⟨rfl,rfl⟩;exact⟨_,rfl,.refl _ _,fun E' _ _=>.float _ _⟩)
 go_enter Tryz.func176,Tryz.ntmps176
 refine wp_seq (wp_region (XV rfl rfl rfl ?_));simp only[wpOps,Exit.then,Act.put,List.getElem_toArray,List.getElem_cons_zero];refine wp_seq (wp_region (XV rfl rfl rfl ?_));refine XV rfl rfl (VB (bits_run x w) (by simp[Act.put,Act.eval])) ?_;have hand:=and_run x hx (.tmp 4) (.const (.int .u64 9223372036854775808)) w;rw[Sem.run_bind,hy] at hand;refine XV (v:=.int .u64 (y:Nat)) rfl rfl ?_ ?_
 ·simp only[execOp,Act.put,Act.eval,List.getElem_toArray,List.getElem_cons_zero,List.getElem_cons_succ];simp[Sem.run_bind];exact Qfw hand
 refine XV rfl rfl (VB (Qaq (y:Int) w) (by simp[Act.put,Act.eval])) ?_;refine XV rfl rfl rfl ?_;simp[wpOps,Exit.then,Act.put,Act.eval];exact wp_ret (bodyPost_ret (results_tmp (t:=2) rfl _ _ _) rfl ⟨rfl,rfl⟩)
theorem trunc_run (x:Nat) (s:Bool) (n:Nat) (p:Int) (h:(FloatKind.f64.decode x) = .number s n p) (w:World):(callFunc 195 #[.float .f64 x]).run Tryz.prog w = .ok (.value (.float .f64 (FloatKind.f64.encode ((FloatKind.f64.decode x).integral .zero)))) w:=by
 refine qw Tryz.func195 (by decide) rfl (by kernel_rfl) (e:=Extern.MathFloor.toIntegral "math.archTrunc" .zero) (by kernel_rfl) ?_
 show Sem.run _ (match FloatKind.f64.decode x with
  | .nan s t=>_
  | d=>pure (Value.float .f64 (FloatKind.f64.encode (d.integral .zero)))) w=_
 rw[h];rfl
theorem Trunc_ok (n:Int) (hn:QV n):Ql TC 177 [.float .f64 (fz n)] (.float .f64 (fz n)):=by
 refine Yx ⟨_,Tryz.func177,rfl,by decide⟩ fun E cargs hg ha=>?_;have:cargs=[.float .f64 (fz n)]:=by cases ha with|cons h t=>cases t;cases h;rfl
 rw[this];generalize E.w=w;refine Calls.mono (R:=fun e w'=>e = .returned (.float .f64 (fz n))/\w' = w) ?_ (by
  rintro e w' ⟨rfl,rfl⟩;exact⟨_,rfl,.refl _ _,fun E' _ _=>.float _ _⟩)
 obtain⟨k,hk⟩:=Yl (decide (n<0)) n.natAbs hn.lt;have hint:=zx (decide (n<0)) n.natAbs hn.lt .zero;have hrun:=trunc_run (fz n) _ _ _ hk w;have he:FloatKind.f64.encode ((FloatKind.f64.decode (fz n)).integral .zero)=fz n:=by
  have e1:(FloatKind.f64.decode (fz n)).integral .zero = .number (decide (n<0)) n.natAbs 0:=hint;rw[e1];have:=Ud (decide (n<0)) n.natAbs 0 hn.lt;simp only[Nat.pow_zero,Nat.mul_one,Int.natCast_zero,Int.neg_zero] at this;exact this
 rw[he] at hrun;generalize fz n=x at *
 go_enter Tryz.func177,Tryz.ntmps177
 refine wp_seq (wp_region (XV rfl rfl rfl ?_));simp only[wpOps,Exit.then,Act.put,List.getElem_toArray,List.getElem_cons_zero];refine wp_seq (wp_cond (t:=true) rfl ?_);refine wp_seq (wp_region (XV rfl rfl rfl ?_));refine XV rfl rfl (VB hrun (by simp[Act.put,Act.eval])) ?_;refine XV rfl rfl rfl ?_;simp[wpOps,Exit.then,Act.put,Act.eval];exact wp_ret (by simp only[Exit.then];exact bodyPost_ret (results_tmp (t:=2) rfl _ _ _) rfl ⟨rfl,rfl⟩)
theorem fw_mod (s:Bool) (n:Nat) (h:n<2 ^ 53):fw s n % 2 ^ 63=fw false n/\fw s n<2 ^ 64:=by
 have e1:Ieee.double.signWeight=2 ^ 63:=rfl;unfold fw Ieee.Format.word;rw[e1];have hr:(if n=0 then 0 else rg n)<2 ^ 63:=by
  split
  ·decide
  ·rename_i h0;obtain⟨h1,h2,h3⟩:=yZ h0 h;have:rg n=(n.log2+1022)*2 ^ 52+n*2 ^ (52 - n.log2):=rfl;revert h2 h3 this;generalize n*2 ^ (52 - n.log2)=x;intro h2 h3 this;simp only[Nat.reducePow] at *;omega
 generalize (if n=0 then 0 else rg n)=q at hr;cases s
 ·simp only[Bool.false_eq_true,if_false];exact⟨Nat.mod_eq_of_lt hr,Nat.lt_trans hr (by decide)⟩
 ·simp only[if_true,Bool.false_eq_true,if_false];simp only[Nat.reducePow] at *;omega
theorem AbsZ_ok (n:Int) (hn:QV n):Ql TC 176 [.float .f64 (fz n)] (.float .f64 (fz n.natAbs)):=by
 obtain⟨h1,h2⟩:=fw_mod (decide (n<0)) n.natAbs hn.lt;have e:fz (n.natAbs:Int)=fw false n.natAbs:=by
  unfold fz;rw[show decide ((n.natAbs:Int)<0)=false from decide_eq_false (by omega)];rfl
 rw[e];exact Abs_ok _ _ h2 h1
theorem part_ok (n:Int) (hn:QV n):Ql TC 156 [.float .f64 (fz n)] (.bool (decide (n.natAbs<=1048576))):=by
 have hk:QV (n.natAbs:Int):=by unfold QV at hn ⊢;omega
 have hm:QV 1048576:=by unfold QV;omega
 have e1:(4697254411347427328:Nat)=fz 1048576:=by decide +kernel
 have o1:=fz_lt hk hm;have o2:=uX hk hm;have o3:=uX hn hn;refine ent Tryz.func156 fun L K hL hR hN hP=>?_;simp;refine Qc (AbsZ_ok n hn) ?_;rw[show (4697254411347427328:Nat)=fz 1048576 from e1] at *;by_cases hle:n.natAbs<=1048576
 ·have q:(FloatKind.f64.format.order (fz n.natAbs) (fz 1048576) == some .lt||FloatKind.f64.format.order (fz n.natAbs) (fz 1048576) == some .eq)=true:=by
   rw[o1,o2,Bool.or_eq_true,decide_eq_true_eq,decide_eq_true_eq];omega
  simp[q];refine Qc (Trunc_ok n hn) ?_;simp[o3];exact hR _ (.pure rfl (by simp[hle];exact .refl _))
 ·have q:(FloatKind.f64.format.order (fz n.natAbs) (fz 1048576) == some .lt||FloatKind.f64.format.order (fz n.natAbs) (fz 1048576) == some .eq)=false:=by
   rw[o1,o2,Bool.or_eq_false_iff,decide_eq_false_iff_not,decide_eq_false_iff_not];omega
  simp[q];exact hR _ (.pure rfl (by simp[hle];exact .refl _))
theorem uo (l:List UInt8) (v:Int) (hl:l.length<=1000000000000) (h:Lib.parseIntB 32 l = .ok v):Ql TC 154 [encS l,.int .i64 10,.int .i64 32] (.tup [.int .i64 v,.nili]):=by
 refine Yx ⟨_,Tryz.func154,rfl,by decide⟩ fun E cargs hg ha=>?_;have:cargs=[.string (bs l),.int .i64 10,.int .i64 32]:=by
  cases ha with|cons h t=>cases t with|cons h2 t=>cases t with|cons h3 t=>cases t;cases h;cases h2;cases h3;rfl
 rw[this];refine (Tryz.strconv_ParseInt_10_at32_ok (bs l) (by simp;omega) v (by rw[UE];exact h) E.w).mono ?_;rintro e w' ⟨rfl,hw⟩;refine⟨_,rfl,?_,fun E' _ _=>.tup (.cons (.int _ _) (.cons .nili .nil))⟩;rcases hw with rfl|⟨t,rfl⟩
 ·exact .refl _ _
 ·exact Lib.bytesWorld_below _ _ _
theorem zq (l:List UInt8) (hl:l.length<=1000000000000) (h:Lib.parseIntB 32 l = .range):Ql TC 154 [encS l,.int .i64 10,.int .i64 32] (.tup [.int .i64 (Lib.intSat 32 l),.iface 276 .any]):=by
 refine Yx ⟨_,Tryz.func154,rfl,by decide⟩ fun E cargs hg ha=>?_;have:cargs=[.string (bs l),.int .i64 10,.int .i64 32]:=by
  cases ha with|cons h t=>cases t with|cons h2 t=>cases t with|cons h3 t=>cases t;cases h;cases h2;cases h3;rfl
 rw[this];obtain⟨ev,h1,h2⟩:∃ ev,E.w.cell? ⟨7,0,none⟩=some ev/\∃ te pe,ev = .iface te pe:=by
  obtain⟨b,o,e,⟨cvs,hr,_,hc⟩,_⟩:=(hg 7 _ TCG7).1.reads;cases e;obtain⟨cv,hcv,hrep⟩:=hr.get (show (V.iface 293 V.any).cells[0]? = some (.iface 293 .any) from rfl);refine⟨cv,by have:=hc 0 cv hcv;simpa using this,?_⟩;cases hrep;exact⟨_,_,rfl⟩
 refine (Tryz.strconv_ParseInt_10_at32_range (bs l) (by simp;omega) (by rw[UE];exact h) ev E.w h1 (.inr h2)).mono ?_;rintro e w' ⟨N,rfl,_,_,hb⟩;refine⟨_,rfl,hb,fun E' _ _=>?_⟩;rw[UE];exact .tup (.cons (.int _ _) (.cons (.iface (.any _)) .nil))
theorem _root_.Go.Awp.ZV.QVw {C:Ctx} {rs:List ResultVar} {L:Nat} {s:ASt} {vs:List V} {v':V} {p:V->Prop} (h:Qf C.P s rs=some vs) (hl:vs.length≠1) (hz:Frz s.σ (.tup vs) v') (hp:p v'):ZV C rs L (fun _ o σ'=>∃ v,p v/\o = .ret v/\σ' = []) s:=by
 refine⟨_,v',s.σ,[],h,by simp,fun _ h=>h,by simp[Qa.keys],by simp[Qa.keys],?_,v',hp,rfl,rfl⟩
 match vs,hl with
 | [],_=>exact hz
 | _::_::_,_=>exact hz
theorem Qiz (ds:Bs) (hd:∀ c∈ds,isD c) (h0:ds≠[]) (hl:ds.length<=1000000000000):
 Va TC 130 [encS ds] (fun r=>∃ x,r = .tup [.float .f64 x,.bool (Yi ds)]/\(Yi ds=true->x=fz (Qt ds))):=by
 obtain⟨c,r,rfl⟩:=List.exists_cons_of_ne_nil h0;have hpi:=zX c r hd;have hcan:=zZ (c::r) hd h0;generalize hds:c::r=ds at *;by_cases hn:Qt ds<2147483648
 ·rw[if_pos hn] at hpi;refine ent Tryz.func130 fun L K hL hR hN hP=>?_;simp;refine Qc (uo ds _ hl hpi) ?_;have hfin:QV (Qt ds:Nat):=by unfold QV;omega
  have hfz:=Xi hfin;simp[hfz];refine Qc (Qhz (Qt ds:Nat) (by omega) (by omega)) ?_;have hit:Lib.itoa ((Qt ds:Nat):Int)=Lib.decDigits (Qt ds):=by unfold Lib.itoa;rw[if_neg (by omega)];simp
  rw[hit];have hwb:Yi ds=(decide (Lib.decDigits (Qt ds)=ds)&&decide (Qt ds<=1048576)):=by
   unfold Yi;rw[<- hcan];by_cases h:Lib.decDigits (Qt ds)=ds<;>simp[h]
  by_cases hq:Lib.decDigits (Qt ds)=ds
  ·simp[hq,hfz];refine Qc (part_ok _ hfin) ?_;simp;exact hR _ (.QVw (vs:=[_,_]) rfl (by simp) (.refl _) ⟨_,by rw[hwb];simp[hq],fun _=>rfl⟩)
  ·have hq':(Lib.decDigits (Qt ds) == ds)=false:=by simpa using hq
   simp[hq'];exact hR _ (.QVw (vs:=[_,_]) rfl (by simp) (.refl _) ⟨_,by rw[hwb];simp[hq],fun _=>rfl⟩)
 ·rw[if_neg hn] at hpi;have hwb:Yi ds=false:=by
   unfold Yi;rw[Bool.and_eq_false_iff];right;simp;omega
  refine ent Tryz.func130 fun L K hL hR hN hP=>?_;simp;refine Qc (zq ds hl hpi) ?_;simp;exact hR _ (.QVw (vs:=[_,_]) rfl (by simp) (.refl _) ⟨_,by rw[hwb],fun h=>by rw[hwb] at h;cases h⟩)
theorem uP (ds:Bs) (c:UInt8) (h:c∉ds):Lib.lastIndexByte (bs ds) (c.toNat:Int) = -1:=by
 unfold Lib.lastIndexByte;rcases Lib.lastIdx_spec (bs ds) (c.toNat:Int) (bs ds).size with⟨h1,_⟩|⟨i,hi,_,h2,_⟩
 ·exact h1
 ·exfalso;have hs:(bs ds).size=ds.length:=by simp[bs,ByteArray.size]
  have:(bs ds).data[i]! = ds[i]!:=by simp[bs]
  rw[this] at h2;have hi':i<ds.length:=by omega
  have hget:ds[i]! = ds[i]:=by simp[hi']
  rw[hget] at h2;have:ds[i]=c:=UInt8.toNat_inj.1 (by omega);exact h (this▸List.getElem_mem hi')
theorem noSuf (ds:Bs) (hd:∀ c∈ds,isD c):Lib.hasSuffix ds [105]=false/\Lib.trimSuffix ds [105]=ds/\Lib.hasSuffix (ds++[105]) [105]=true/\Lib.trimSuffix (ds++[105]) [105]=ds:=by
 have h1:Lib.hasSuffix ds [105]=false:=by
  unfold Lib.hasSuffix;rw[Bool.eq_false_iff];intro h;rw[List.isSuffixOf_iff_suffix] at h;have:=hd 105 (h.subset (by simp));simp[isD] at this
 have h2:Lib.hasSuffix (ds++[105]) [105]=true:=by
  unfold Lib.hasSuffix;rw[List.isSuffixOf_iff_suffix];exact⟨ds,rfl⟩
 refine⟨h1,by unfold Lib.trimSuffix;rw[if_neg (by simp[h1])],h2,?_⟩;unfold Lib.trimSuffix;rw[if_pos h2];simp
theorem vN (ds:Bs) (hd:∀ c∈ds,isD c) (h0:ds≠[]) (hl:ds.length<=1000000000000) (im:Bool):
 Ql TC 84 [encS (if im=true then ds++[105] else ds)] (match numOf ds im with|some z=>.tup [Qu z,.bool true]|none=>.tup [.cplx .f64 0 0,.bool false]):=by
 obtain⟨s1,s2,s3,s4⟩:=noSuf ds hd;have hno:∀ c:UInt8,c.toNat<48->c∉ds:=fun c hc hm=>by have:=(hd c hm).1;omega
 have hz0:fz 0=0:=WZ;cases im
 ·rw[Qtw ds hd h0];refine ent Tryz.func84 fun L K hL hR hN hP=>?_;simp;refine Qc (wK ds [105] (by omega)) ?_;simp[s1,s2];refine Qe.ZN (Qiz ds hd h0 hl) (by decide) rfl ?_;rintro v ⟨x,rfl,hx⟩;by_cases hw:Yi ds=true
  ·simp[hw];exact hR _ (.pures (vs:=[_,_]) rfl (by simp) (by simp[hw,Qu,hx hw,hz0];exact .refl _))
  ·simp[hw];exact hR _ (.pures (vs:=[_,_]) rfl (by simp) (by simp[hw];exact .refl _))
 ·rw[numOf_im ds hd h0];refine ent Tryz.func84 fun L K hL hR hN hP=>?_;simp;refine Qc (wK (ds++[105]) [105] (by simp;omega)) ?_;simp[s3,s4];refine Qc (Vu ds 43 (by omega)) ?_;have l1:=uP ds 43 (hno 43 (by decide));have l2:=uP ds 45 (hno 45 (by decide));have l1:Lib.lastIndexByte (bs ds) 43 = -1:=l1;have l2:Lib.lastIndexByte (bs ds) 45 = -1:=l2;simp[l1];refine Qc (Vu ds 45 (by omega)) ?_;simp[l2];refine Qe.ZN (Qiz ds hd h0 hl) (by decide) rfl ?_;rintro v ⟨x,rfl,hx⟩;by_cases hw:Yi ds=true
  ·have hx:=hx hw;subst hx;have hfin:QV (Qt ds:Nat):=by
    have:Qt ds<=1048576:=by unfold Yi at hw;simp at hw;exact hw.2
    unfold QV;omega
   have hf0:QV 0:=by unfold QV;omega
   have o:=QBq hfin hf0;rw[hz0] at o;by_cases hd0:Qt ds=0
   ·have o0:=QBq hf0 hf0;rw[hz0] at o0;simp[hw,o0,hd0,hz0];exact hR _ (.pures (vs:=[_,_]) rfl (by simp) (by simp[hw,hd0];exact .refl _))
   ·have hd1:decide (((Qt ds:Nat):Int)≠0)=true:=by simp[hd0]
    simp[hw,o,hd0];exact hR _ (.pures (vs:=[_,_]) rfl (by simp) (by simp[hw,hd0,Qu,hz0];exact .refl _))
  ·simp[hw];exact hR _ (.pures (vs:=[_,_]) rfl (by simp) (by simp[hw];exact .refl _))
end Go.Awp.R1
namespace Go.Awp.Sp
def twl (p:UInt8->Bool) (l:Bs) (i:Nat):Nat:=((l.drop i).takeWhile p).length
theorem yz {p:UInt8->Bool} {l:Bs} {i:Nat} (h:l.length<=i):twl p l i=0:=by
 unfold twl;rw[List.drop_eq_nil_of_le h];rfl
theorem Vx {p:UInt8->Bool} {l:Bs} {i:Nat} {c:UInt8} (h:l[i]? = some c) (hp:p c=true):twl p l i=twl p l (i+1)+1:=by
 unfold twl;rw[Zk h];simp[hp]
theorem QNz {p:UInt8->Bool} {l:Bs} {i:Nat} {c:UInt8} (h:l[i]? = some c) (hp:p c=false):twl p l i=0:=by
 unfold twl;rw[Zk h];simp[hp]
theorem tw_take (q:UInt8->Bool) (l:Bs):l.takeWhile q=l.take (l.takeWhile q).length:=by
 induction l with
 | nil=>rfl
 | cons x l ih=>by_cases hx:q x=true<;>simp[hx];exact ih
theorem jw (p:UInt8->Bool) (l:Bs) (i:Nat):(l.drop i).takeWhile p=(l.drop i).take (twl p l i):=tw_take p _
theorem Quw (l:Bs) (i:Nat):WR (l.drop i)=twl (· != 10) l i:=rfl
theorem tok_word {l:Bs} {i:Nat} {c:UInt8} (h:l[i]? = some c) (hc:QX c=true):Wx i (l.drop i) = .ok (⟨1,(l.drop i).take (twl QU l i),⟨0,0⟩,i⟩,twl QU l i):=by
 have ht:=jw QU l i;have hl:twl QU l i=((l.drop i).takeWhile QU).length:=rfl;rw[<- ht,hl];rw[Zk h];simp only[Wx,if_pos hc]
theorem yA {l:Bs} {i:Nat} {c:UInt8} (h:l[i]? = some c) (hc:QX c=false) (hd:Qs c=true):
 Wx i (l.drop i)=XZ i ((l.drop i).take (twl Qs l i)) (l[i+twl Qs l i]? == some 105) (l.drop (i+twl Qs l i+(if (l[i+twl Qs l i]? == some 105)=true then 1 else 0))):=by
 have ht:=jw Qs l i;have hl:((l.drop i).takeWhile Qs).length=twl Qs l i:=rfl;have e1:Wx i (l.drop i)=XZ i ((l.drop i).takeWhile Qs) (((l.drop i).drop ((l.drop i).takeWhile Qs).length).head? == some 105) (if (((l.drop i).drop ((l.drop i).takeWhile Qs).length).head? == some 105)=true then ((l.drop i).drop ((l.drop i).takeWhile Qs).length).tail else (l.drop i).drop ((l.drop i).takeWhile Qs).length):=by
  rw[Zk h];have hc':¬ QX c=true:=by rw[hc];simp
  simp only[Wx,if_neg hc',if_pos hd]
 rw[e1,hl,ht,List.drop_drop,List.head?_drop];by_cases him:(l[i+twl Qs l i]? == some 105)=true
 ·simp only[him,if_true];rw[List.tail_drop]
 ·simp only[him,Bool.false_eq_true,if_false,Nat.add_zero]
theorem tok_sign {l:Bs} {i:Nat} {c:UInt8} (h:l[i]? = some c) (hc:QX c=false) (hd:Qs c=false) (hs:YG c=true):
 Wx i (l.drop i) = .ok (⟨3,(l.drop i).take (if ((c == 61||c == 33)&&l[i+1]? == some 61)=true then 2 else 1),⟨0,0⟩,i⟩,if ((c == 61||c == 33)&&l[i+1]? == some 61)=true then 2 else 1):=by
 rw[Zk h];have hc':¬ QX c=true:=by rw[hc];simp
 have hd':¬ Qs c=true:=by rw[hd];simp
 simp only[Wx,if_neg hc',if_neg hd',if_pos hs,List.tail_cons,List.head?_drop]
theorem UK {l:Bs} {i:Nat} {c:UInt8} (h:l[i]? = some c) (hc:QX c=false) (hd:Qs c=false) (hs:YG c=false):Wx i (l.drop i) = .error (i,WE):=by
 rw[Zk h];have hc':¬ QX c=true:=by rw[hc];simp
 have hd':¬ Qs c=true:=by rw[hd];simp
 have hs':¬ YG c=true:=by rw[hs];simp
 simp only[Wx,if_neg hc',if_neg hd',if_neg hs']
end Go.Awp.Sp
namespace Go.Awp
open Go
def ExitJ (J:Nat->Act->World->Prop) (Q:Exit->Act->World->Prop):Exit->Act->World->Prop
 | .goto l,a,w=>J l a w
 | e,a,w=>Q e a w
section
variable {P:Program} {a:Act} {w:World} {Q:Exit->Act->World->Prop}
theorem jq {c:Code} (J:Nat->Nat->Act->World->Prop)
 (first:c.wp P (ExitJ (fun l a w=>∃ n,J n l a w) Q) a w)
 (pass:∀ n l a w,J n l a w->∃ r,findLabel c l=some r/\r.wp P (ExitJ (fun l' a' w'=>∃ m,m<n/\J m l' a' w') Q) a w):(Code.scope c).wp P Q a w:=by
 intro b k cs;have key:∀ n l a w,J n l a w->∃ r,findLabel c l=some r/\∃ e a' w',Q e a' w'/\Arrives P (lone (b.at a (.code r :: .inScope c::k)) cs w) b k cs e a' w':=by
  intro n
  induction n using Nat.strongRecOn with
  | _ n ih=>
    intro l a w hJ;obtain⟨r,hr,hp⟩:=pass n l a w hJ;refine⟨r,hr,?_⟩;obtain⟨e,a₁,w₁,hq,harr⟩:=hp b (.inScope c::k) cs;cases e with
    | normal=>exact⟨.normal,a₁,w₁,hq,Steps.trans harr (.one step_inScope)⟩
    | exit id=>exact⟨.exit id,a₁,w₁,hq,fun k' hk=>harr k' (by simp[exitTo,hk])⟩
    | goto l'=>
      obtain⟨m,hm,hJ'⟩:=hq;obtain⟨r',hr',e₂,a₂,w₂,hq₂,harr₂⟩:=ih m hm l' a₁ w₁ hJ';have hg:gotoIn l' (.inScope c::k)=some (.code r' :: .inScope c::k):=by simp[gotoIn,hr']
      exact⟨e₂,a₂,w₂,hq₂,.of_steps (harr _ hg) harr₂⟩
    | ret=>exact⟨_,a₁,w₁,hq,harr⟩
    | panic ch=>exact⟨_,a₁,w₁,hq,harr⟩
    | outgrown=>exact⟨_,a₁,w₁,hq,harr⟩
 obtain⟨e,a₁,w₁,hq,harr⟩:=first b (.inScope c::k) cs
 cases e with
 | normal=>exact⟨.normal,a₁,w₁,hq,.head step_scope (Steps.trans harr (.one step_inScope))⟩
 | exit id=>exact⟨.exit id,a₁,w₁,hq,fun k' hk=>.head step_scope (harr k' (by simp[exitTo,hk]))⟩
 | goto l'=>
   obtain⟨n,hJ'⟩:=hq;obtain⟨r',hr',e₂,a₂,w₂,hq₂,harr₂⟩:=key n l' a₁ w₁ hJ';have hg:gotoIn l' (.inScope c::k)=some (.code r' :: .inScope c::k):=by simp[gotoIn,hr']
   exact⟨e₂,a₂,w₂,hq₂,.of_steps (.head step_scope (harr _ hg)) harr₂⟩
 | ret=>exact⟨_,a₁,w₁,hq,.of_steps (.one step_scope) harr⟩
 | panic ch=>exact⟨_,a₁,w₁,hq,.of_steps (.one step_scope) harr⟩
 | outgrown=>exact⟨_,a₁,w₁,hq,.of_steps (.one step_scope) harr⟩
end
section
variable {C:Ctx} {K:QH->ASt->Prop} {s:ASt}
def GotoK (C:Ctx) (K:QH->ASt->Prop) (s:ASt) (G:Nat->ASt->Prop):QH->ASt->Prop
 | .goto l,s'=>∃ s2,Turn C { s' with lv:=s.lv,nx:=s.nx } s2/\G l s2
 | e,s'=>K e { s' with lv:=s.lv,nx:=s.nx }
theorem aw_scopeG {c:Code} {α:Type} (lab:α->Nat) (I:α->List (Nat × V)) (S:α->Qa) (μ:α->Nat)
 (first:∀ L,s.lv<L->(∀ id,id∈s.σ.keys->id.1≠L)->AW C c (GotoK C K s fun l s2=>∃ x,lab x=l/\s2 = { s with τ:=I x,σ:=S x }) { s with lv:=L,nx:=0 })
 (pass:∀ x L,s.lv<L->(∀ id,id∈(S x).keys->id.1≠L)->∃ r,findLabel c (lab x)=some r/\
   AW C r (GotoK C K s fun l s2=>∃ x',lab x' = l/\μ x' < μ x/\s2 = { s with τ:=I x',σ:=S x' }) { s with τ:=I x,σ:=S x,lv:=L,nx:=0 }):
 AW C (.scope c) K s:=fun E a hr=>by
 have fresh:∀ {E1:Amb} {σ:Qa},Qk E1 σ->∃ L,s.lv<L/\(∀ id:Id,L<=id.1->E1.ι id = .unborn)/\∀ id,id∈σ.keys->id.1≠L:=fun {E1 σ} hs=>by
  obtain⟨N,hN⟩:=hs.fin;refine⟨max N (s.lv+1),by omega,fun id hi=>hN id (by omega),fun id hi e=>?_⟩;obtain⟨k,_,hk⟩:=hs.mem hi;exact hk.born (hN id (by omega))
 have post:∀ {E1:Amb} {a1:Act} {σ1:Qa} {τ1:List (Nat × V)} {L:Nat} {e:Exit} {a2:Act} {w2:World} {E2:Amb} {ae:QH} {s2:ASt} {G:Nat->ASt->Prop} {R:Nat->Act->World->Prop},s.lv<L->
  Rel C { s with τ:=τ1,σ:=σ1 } E1 a1->Grow E s.σ E1 σ1->a1.defers=a.defers->(∀ id:Id,id.1<s.lv->E.ι id = .unborn->E1.ι id = .unborn)->
  Post C (GotoK C K s G) { s with τ:=τ1,σ:=σ1,lv:=L,nx:=0 } E1 a1 e a2 w2 E2 ae s2->
  (∀ l s3 E3,G l s3->E3.w=w2->Rel C s3 E3 a2->Grow E s.σ E3 s3.σ->a2.defers=a.defers->(∀ id:Id,id.1<s.lv->E.ι id = .unborn->E3.ι id = .unborn)->R l a2 w2)->
  ExitJ R (fun e a' w'=>∃ E' ae s',Post C K s E a e a' w' E' ae s') e a2 w2:=by
  intro E1 a1 σ1 τ1 L e a2 w2 E2 ae s2 G R hlv r1 g1 d1 b1 p hG;have hx:=p.exit;have back:Rel C { s2 with lv:=s.lv,nx:=s.nx } E2 a2:=⟨p.rel.tmp,p.rel.size,p.rel.store,fun k hk=>p.born (s.lv,k) hlv (r1.own k hk),p.rel.glob⟩
  have bornAll:∀ id:Id,id.1<s.lv->E.ι id = .unborn->E2.ι id = .unborn:=fun id hi hu=>p.born id (by show id.1<L;omega) (b1 id hi hu);have out:∀ ae',Jj E2 ae' e->K ae' { s2 with lv:=s.lv,nx:=s.nx }->∃ E' ae s',Post C K s E a e a2 w2 E' ae s':=fun ae' he hk=>
   ⟨E2,ae',_,p.w,he,hk,back,g1.trans p.grow,p.defers.trans d1,rfl,bornAll⟩
  cases hx with
  | normal=>exact out _ .normal p.k
  | exit i=>exact out _ (.exit i) p.k
  | goto l=>
    obtain⟨s3,ht,hg⟩:=p.k;obtain⟨E3,w3,r3,g3,l3,b3⟩:=ht E2 a2 back;exact hG l s3 E3 hg (w3.trans p.w) r3 ((g1.trans p.grow).trans g3) (p.defers.trans d1) (fun id hi hu=>b3 id hi (bornAll id hi hu))
  | ret=>exact out _ .ret p.k
  | panic h=>exact out _ (.panic h) p.k
 refine jq (P:=C.P) (fun n l a1 w1=>∃ x E1,μ x=n/\lab x=l/\E1.w=w1/\Rel C { s with τ:=I x,σ:=S x } E1 a1/\Grow E s.σ E1 (S x)/\a1.defers=a.defers/\∀ id:Id,id.1<s.lv->E.ι id = .unborn->E1.ι id = .unborn) ?_ ?_
 ·obtain⟨L,hlv,hL,hk⟩:=fresh hr.store;have hrel:Rel C { s with lv:=L,nx:=0 } E a:=⟨hr.tmp,hr.size,hr.store,fun k _=>hL (L,k) (Nat.le_refl _),hr.glob⟩
  refine wp_mono (first L hlv hk E a hrel) ?_;rintro e a2 w2 ⟨E2,ae,s2,p⟩;refine post hlv hr (Grow.refl _ _) rfl (fun _ _ h=>h) p fun l s3 E3 hg hw r3 g3 d3 b3=>?_;obtain⟨x,hl,rfl⟩:=hg;exact⟨μ x,x,E3,rfl,hl,hw,r3,g3,d3,b3⟩
 ·rintro n l a1 w1 ⟨x,E1,rfl,rfl,rfl,r1,g1,d1,b1⟩;obtain⟨L,hlv,hL,hk⟩:=fresh r1.store;obtain⟨r,hfr,haw⟩:=pass x L hlv hk;refine⟨r,hfr,?_⟩;have hrel:Rel C { s with τ:=I x,σ:=S x,lv:=L,nx:=0 } E1 a1:=⟨r1.tmp,r1.size,r1.store,fun k _=>hL (L,k) (Nat.le_refl _),r1.glob⟩
  refine wp_mono (haw E1 a1 hrel) ?_;rintro e a2 w2 ⟨E2,ae,s2,p⟩;refine post hlv r1 g1 d1 b1 p fun l s3 E3 hg hw r3 g3 d3 b3=>?_;obtain⟨x',hl,hlt,rfl⟩:=hg;exact⟨μ x',hlt,x',E3,rfl,hl,hw,r3,g3,d3,b3⟩
theorem scopeG {c:Code} {st:List Fr} {α:Type} (J:α->Prop) (lab:α->Nat) (I:α->List (Nat × V)) (S:α->Qa) (μ:α->Nat)
 (hcode:∀ x,J x->∃ r,findLabel c (lab x)=some r/\(codeOk C.ex c=true->codeOk C.ex r=true)/\
   ∀ L K',s.lv<L->(∀ id,id∈(S x).keys->id.1≠L)->
   (∀ l s' x',J x'->lab x' = l->μ x' < μ x->Turn C { s' with lv:=s.lv,nx:=s.nx } { s with τ:=I x',σ:=S x' }->K' (.goto l) s')->
   (∀ s',go C 1000000 .done st K { s' with lv:=s.lv,nx:=s.nx }->K' .normal s')->
   (∀ id s',go C 1000000 (.exit id) st K { s' with lv:=s.lv,nx:=s.nx }->K' (.exit id) s')->
   (∀ s',K .ret { s' with lv:=s.lv,nx:=s.nx }->K' .ret s')->
   (∀ v s',K (.panic v) { s' with lv:=s.lv,nx:=s.nx }->K' (.panic v) s')->
   ∃ s2,Turn C { s with τ:=I x,σ:=S x,lv:=L,nx:=0 } s2/\go C 1000000 (.code r) [] K' s2)
 (first:∀ L K',s.lv<L->(∀ id,id∈s.σ.keys->id.1≠L)->
   (∀ l s' x',J x'->lab x' = l->Turn C { s' with lv:=s.lv,nx:=s.nx } { s with τ:=I x',σ:=S x' }->K' (.goto l) s')->
   (∀ s',go C 1000000 .done st K { s' with lv:=s.lv,nx:=s.nx }->K' .normal s')->
   (∀ id s',go C 1000000 (.exit id) st K { s' with lv:=s.lv,nx:=s.nx }->K' (.exit id) s')->
   (∀ s',K .ret { s' with lv:=s.lv,nx:=s.nx }->K' .ret s')->
   (∀ v s',K (.panic v) { s' with lv:=s.lv,nx:=s.nx }->K' (.panic v) s')->
   go C 1000000 (.code c) [] K' { s with lv:=L,nx:=0 }):Wait C (.scope c) st K s:=by
 intro hok hst;refine aw_scopeG (α:={ x // J x }) (fun x=>lab x.1) (fun x=>I x.1) (fun x=>S x.1) (fun x=>μ x.1) ?_ ?_
 ·intro L hlv hk;refine go_sound 1000000 (.code c) [] _ _ (fun c' e=>by cases e;exact hok) rfl (first L _ hlv hk ?_ ?_ ?_ ?_ ?_)
  ·intro l s' x' jx hl ht;exact⟨_,ht,⟨x',jx⟩,hl,rfl⟩
  ·intro s' h;exact go_sound _ _ _ _ _ (fun c e=>by cases e) hst h
  ·intro id s' h;exact go_sound _ _ _ _ _ (fun c e=>by cases e) hst h
  ·intro s' h;show unst C st K .ret _;rw[Vf];exact h
  ·intro v s' h;show unst C st K (.panic v) _;rw[YQ];exact h
 ·intro x L hlv hk;obtain⟨r,h1,h2,h3⟩:=hcode x.1 x.2
  suffices hs:∃ s2,Turn C { s with τ:=I x.1,σ:=S x.1,lv:=L,nx:=0 } s2/\go C 1000000 (.code r) [] (GotoK C (unst C st K) s fun l s2=>∃ x':{ x // J x },lab x'.1=l/\μ x'.1<μ x.1/\s2 = { s with τ:=I x'.1,σ:=S x'.1 }) s2 by
   obtain⟨s2,ht2,hgo⟩:=hs;exact⟨r,h1,Qew ht2 (go_sound 1000000 (.code r) [] _ _ (fun c' e=>by cases e;exact h2 hok) rfl hgo)⟩
  refine h3 L _ hlv hk ?_ ?_ ?_ ?_ ?_
  ·intro l s' x' jx hl hlt ht;exact⟨_,ht,⟨x',jx⟩,hl,hlt,rfl⟩
  ·intro s' h;exact go_sound _ _ _ _ _ (fun c e=>by cases e) hst h
  ·intro id s' h;exact go_sound _ _ _ _ _ (fun c e=>by cases e) hst h
  ·intro s' h;show unst C st K .ret _;rw[Vf];exact h
  ·intro v s' h;show unst C st K (.panic v) _;rw[YQ];exact h
theorem Qdq {ex:List Nat}:∀ {c r:Code} {l:Nat},findLabel c l=some r->codeOk ex c=true->codeOk ex r=true:=by
 intro c
 induction c with
 | seq x y ihx ihy=>
   intro r l h hc;simp only[codeOk,Bool.and_eq_true] at hc;simp only[findLabel] at h;split at h
   ·rename_i rest hr;cases h;simp only[codeOk,Bool.and_eq_true];exact⟨ihx hr hc.1,hc.2⟩
   ·exact ihy h hc.2
 | label l'=>
   intro r l h hc;simp only[findLabel] at h;split at h
   ·cases h;rfl
   ·cases h
 | _=>intro r l h;simp[findLabel] at h
end
end Go.Awp
