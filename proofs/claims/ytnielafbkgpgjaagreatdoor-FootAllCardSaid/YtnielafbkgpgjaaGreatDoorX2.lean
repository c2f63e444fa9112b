/- AWP, text 5: the pure operations' soundness. -/
import Derived.Test.YtnielafbkgpgjaaGreatDoorX1
import Derived.Laws.StructEq
set_option linter.all false
set_option maxRecDepth 100000
set_option maxHeartbeats 8000000
namespace Go.Awp
open Go
section
variable {P:Program} {E:Amb}
theorem Jl {d:Nat} (hd:Op.maxDepth=d+1) {t:TypeId} {a b:Value} {r:Bool} {w:World}
 (h:(Op.equalIn (d+1) t a b).run P w = .ok r w):(Op.equal t a b).run P w = .ok r w:=by
 unfold Op.equal;rw[hd];exact h
theorem qu {t:TypeId} (h:Qo P t = .bool):P.underlying t=some .bool:=by
 unfold Qo at h;split at h<;>simp_all
theorem XD {t:TypeId} (h:Qo P t = .slice):∃ e,P.underlying t=some (.slice e):=by
 unfold Qo at h;split at h<;>simp_all
theorem XW {t:TypeId} (h:Qo P t = .str):P.underlying t=some .string:=by
 unfold Qo at h;split at h<;>simp_all
theorem Yy {t:TypeId} {k:IntKind} (h:Qo P t = .int k):P.underlying t=some (.int k):=by
 unfold Qo at h;split at h<;>simp_all
theorem QEz (A:Array TypeId) (T:TypeId) (k:FloatKind) (a b:Nat):Builtin.complex_ A T #[.float k a,.float k b]=pure (.complex k a b):=if_pos rfl
theorem qt {t:TypeId} {k:FloatKind} (h:Qo P t = .cplx k):P.underlying t=some (.complex k):=by
 unfold Qo at h;split at h<;>simp_all
theorem JM {t:TypeId} {k:FloatKind} (h:Qo P t = .float k):P.underlying t=some (.float k):=by
 unfold Qo at h;split at h<;>simp_all
theorem JL {t:TypeId} (h:Qo P t = .iface):∃ m,P.underlying t=some (.interface m):=by
 unfold Qo at h;split at h<;>simp_all
theorem Jn {t:TypeId} {cs:List V} {cvs:List Value} {off:Nat} {v:V} (hr:RepL E cs cvs) (hs:∀ c∈cs,c.scalar=true) (hp:Xh P t cs off=some v) (w:World):
 ∃ cv,(part t cvs.toArray off).run P w = .ok cv w/\Rep E v cv:=by
 unfold Xh at hp;split at hp
 ·rename_i n ha hz;split at hp
  ·rename_i hle;cases hp;refine⟨.agg ((cvs.drop off).take n).toArray,?_,.agg ((hr.drop off).take n) fun c hm=>hs c (List.mem_of_mem_drop (List.mem_of_mem_take hm))⟩;simp[part,Vz ha,QK hz]
  ·cases hp
 ·rename_i n ha hz;obtain⟨cv,hcv,hrep⟩:=hr.get hp;refine⟨cv,?_,hrep⟩;simp[part,Vz ha,hcv]
 ·cases hp
theorem zk:∀ (d e:Nat) (t:TypeId) (a b:V) (ca cb:Value) (r:Bool) (w:World),eqV P d t a b=some r->Rep E a ca->Rep E b cb->(Op.equalIn (d+e) t ca cb).run P w = .ok r w
 | 0,_,_,_,_,_,_,_,_,h,_,_=>by cases h
 | d+1,e,t,a,b,ca,cb,r,w,h,ha,hb=>by
   have ih:=zk d e;rw[show d+1+e=(d+e)+1 by omega];unfold eqV at h;split at h
   ·cases ha;cases hb;split at h
    ·rename_i k hk;split at h
     ·rename_i e;subst e;cases h;exact run_equalIn_int w _ t _ k _ _ (Yy hk)
     ·cases h
    ·cases h
   ·cases ha;cases hb;split at h
    ·rename_i hk;cases h;exact run_equalIn_bool' w _ t _ _ (qu hk)
    ·cases h
   ·cases ha;cases hb;split at h
    ·rename_i hk;cases h;exact run_equalIn_string w _ t _ _ (XW hk)
    ·cases h
   ·rename_i xs ys;cases ha with|agg hxs sxs=>
    cases hb with|agg hys sys=>
    split at h
    ·rename_i n el hn;split at h
     ·obtain⟨z,hz,h2⟩:=Option.bind_eq_some_iff.1 h;clear h;have h:=h2;clear h2;have hu:=Jr hn;obtain⟨i,hi,rfl⟩:=Option.map_eq_some_iff.1 (show (P.info? el).map (·.size)=some z from hz);have hc:P.cellsOf el=i.size:=by simp[Program.cellsOf,hi]
      rw[run_equalIn_array w (d+e) _ _ hu hi,hc];generalize List.range n=l at h ⊢
      induction l generalizing r with
      | nil=>simp only[eqAr,Option.some.injEq] at h;subst h;simp[Op.eqItems]
      | cons j l ihl=>
        simp only[eqAr] at h;obtain⟨a,hpa,h⟩:=Option.bind_eq_some_iff.1 h;obtain⟨b,hpb,h⟩:=Option.bind_eq_some_iff.1 h;obtain⟨q,hq,h⟩:=Option.bind_eq_some_iff.1 h;obtain⟨rr,hrr,h⟩:=Option.map_eq_some_iff.1 h;obtain⟨cva,r1,p1⟩:=Jn hxs sxs hpa w;obtain⟨cvb,r2,p2⟩:=Jn hys sys hpb w;have r3:=ih el a b cva cvb q w hq p1 p2;simp only[Op.eqItems,Sem.run_bind,r1,r2,r3,Result.andThen_ok];cases q
        ·have h:(false&&rr)=r:=h;rw[Bool.false_and] at h;subst h;simp
        ·have h:(true&&rr)=r:=h;rw[Bool.true_and] at h;subst h;simpa using ihl rr hrr
     ·cases h
    obtain⟨fs,hfs,hE⟩:=Option.bind_eq_some_iff.1 h;clear h;unfold cmpT at hfs;split at hfs
    ·rename_i fields hu;split at hfs
     ·rename_i hc;obtain⟨h1,_,h3⟩:=hc;cases hfs;have hf:P.fieldsOf t=fields:=by simp[Program.fieldsOf,hu]
      rw[run_equalIn_struct w _ t _ _ (by rw[hf];exact hu) h1,hf];have h:=hE;clear hE;generalize fields.toList=l at h h3 ⊢;clear hf hu
      induction l generalizing r with
      | nil=>simp only[List.map_nil,eqFs,Option.some.injEq] at h;subst h;simp[Op.eqFields]
      | cons f l ihl=>
        simp only[List.all_cons,Bool.and_eq_true,bne_iff_ne,ne_eq] at h3;simp only[List.map_cons,eqFs] at h;obtain⟨a,hpa,h⟩:=Option.bind_eq_some_iff.1 h;obtain⟨b,hpb,h⟩:=Option.bind_eq_some_iff.1 h;obtain⟨q,hq,h⟩:=Option.bind_eq_some_iff.1 h;obtain⟨rr,hrr,h⟩:=Option.map_eq_some_iff.1 h;obtain⟨cva,r1,p1⟩:=Jn hxs sxs hpa w;obtain⟨cvb,r2,p2⟩:=Jn hys sys hpb w;have r3:=ih f.type a b cva cvb q w hq p1 p2;rw[Op.eqFields,if_pos h3.1];simp only[Sem.run_bind,r1,r2,r3,Result.andThen_ok];cases q
        ·have h:(false&&rr)=r:=h;rw[Bool.false_and] at h;subst h;simp
        ·have h:(true&&rr)=r:=h;rw[Bool.true_and] at h;subst h;simpa using ihl rr hrr h3.2
     ·cases hfs
    ·cases hfs
   ·cases ha;cases hb;split at h
    ·rename_i hk;split at h
     ·rename_i e;subst e;cases h;unfold Op.equalIn;simp[run_underlying (qt hk)]
     ·cases h
    ·cases h
   ·cases h
theorem vG {op:BinOp} {t:TypeId} {x y:Operand} {a b v:V} {ca cb:Value} (h:binV P (isC x||isC y) op t a b=some v) (ha:Rep E a ca) (hb:Rep E b cb) (w:World):
 ∃ cv,(do eqGuard op t x y ca cb;binOp op t ca cb:Sem Value).run P w = .ok cv w/\Rep E v cv:=by
 unfold binV at h;split at h
 ·cases ha;cases hb;rename_i k a k' b;rw[eqGuard_at_int];simp only[Sem.run_bind,Sem.run_pure,Result.andThen_ok];cases op<;>simp only at h
  case shl=>
   split at h<;>cases h;rename_i h0;refine⟨_,?_,.int _ _⟩;simp only[binOp,Op.shift];rw[if_neg (by omega)];rfl
  case shr=>
   split at h<;>cases h;rename_i h0;refine⟨_,?_,.int _ _⟩;simp only[binOp,Op.shift];rw[if_neg (by omega)];rfl
  case quo=>
   split at h
   ·subst_vars
    split at h<;>cases h;rename_i h0;refine⟨_,?_,.int _ _⟩;simp[binOp,Op.intDiv,h0]
   ·cases h
  case rem=>
   split at h
   ·subst_vars
    split at h<;>cases h;rename_i h0;refine⟨_,?_,.int _ _⟩;simp[binOp,Op.intDiv,h0]
   ·cases h
  all_goals
   split at h
   ·subst_vars;cases h
    refine⟨_,?_,by constructor⟩
    first
     | (simp[binOp,Op.intArith];done)
     | (simp[binOp,Op.intCmp];done)
     | (simp only[binOp];rw[if_neg (by simp)];rfl)
   ·cases h
 ·cases ha;cases hb;rw[eqGuard_at_string];simp only[Sem.run_bind,Sem.run_pure,Result.andThen_ok];split at h
  ·split at h<;>cases h;rename_i hs;refine⟨_,?_,.str _⟩;simp only[binOp,Op.stringOp];rw[if_neg (by simp only[IntKind.max_i64];omega)];rfl
  all_goals first
   | cases h
   | skip
  all_goals exact⟨_,rfl,by constructor⟩
 ·rename_i a' b';cases ha;cases hb;rw[eqGuard_at_bool];simp only[Sem.run_bind,Sem.run_pure,Result.andThen_ok];split at h
  ·rename_i hs;cases h;refine⟨_,?_,.bool _⟩;simp only[binOp,Sem.run_bind];rw[Jl (r:=a' == b') rfl (by unfold Op.equalIn;simp[run_underlying (qu hs)])];rfl
  ·rename_i hs;cases h;refine⟨_,?_,.bool _⟩;simp only[binOp,Sem.run_bind];rw[Jl (r:=a' == b') rfl (by unfold Op.equalIn;simp[run_underlying (qu hs)])];rfl
  ·cases h
 ·cases ha;cases hb;rw[eqGuard_at_iface];simp only[Sem.run_bind,Sem.run_pure,Result.andThen_ok];split at h
  ·rename_i hs;obtain⟨m,hm⟩:=JL hs;cases h;refine⟨_,?_,.bool _⟩;simp only[binOp,Sem.run_bind];rw[Jl (r:=false) rfl (by unfold Op.equalIn;simp[run_underlying hm])];rfl
  ·rename_i hs;obtain⟨m,hm⟩:=JL hs;cases h;refine⟨_,?_,.bool _⟩;simp only[binOp,Sem.run_bind];rw[Jl (r:=false) rfl (by unfold Op.equalIn;simp[run_underlying hm])];rfl
  ·cases h
 ·cases ha;cases hb;split at h
  ·rename_i hq hs;obtain⟨m,hm⟩:=JL hs;cases h;refine⟨_,?_,.bool _⟩;have hg:eqGuard .eql t x y .nilIface .nilIface=pure ():=by
    unfold eqGuard;cases x<;>cases y<;>first|rfl|(simp at hq)
   rw[hg];simp only[binOp,Sem.run_bind,Sem.run_pure,Result.andThen_ok];rw[Jl (r:=true) rfl (by unfold Op.equalIn;simp[run_underlying hm])];rfl
  ·rename_i hq hs;obtain⟨m,hm⟩:=JL hs;cases h;refine⟨_,?_,.bool _⟩;have hg:eqGuard .neq t x y .nilIface .nilIface=pure ():=by
    unfold eqGuard;cases x<;>cases y<;>first|rfl|(simp at hq)
   rw[hg];simp only[binOp,Sem.run_bind,Sem.run_pure,Result.andThen_ok];rw[Jl (r:=true) rfl (by unfold Op.equalIn;simp[run_underlying hm])];rfl
  ·cases h
 ·rename_i xs ys;have hg:∀ {r:Bool},eqV P 4 t (.agg xs) (.agg ys)=some r->P.eqGuardType P.depth t=false:=fun {r} hr=>by
   unfold eqV at hr;simp only at hr;split at hr
   ·split at hr
    ·assumption
    ·cases hr
   obtain⟨fs,hfs,_⟩:=Option.bind_eq_some_iff.1 hr;unfold cmpT at hfs;split at hfs
   ·split at hfs
    ·rename_i hc;exact hc.2.1
    ·cases hfs
   ·cases hfs
  split at h
  ·obtain⟨r,hr,rfl⟩:=Option.map_eq_some_iff.1 h;have:=zk 4 9996 t _ _ _ _ r w hr ha hb;cases ha;cases hb;refine⟨_,?_,.bool r⟩;rw[Sem.run_bind,run_eqGuard_agg w _ t _ _ _ _ (hg hr)];simp only[Result.andThen_ok];rw[run_eql_struct,this];rfl
  ·obtain⟨r,hr,rfl⟩:=Option.map_eq_some_iff.1 h;have:=zk 4 9996 t _ _ _ _ r w hr ha hb;cases ha;cases hb;refine⟨_,?_,.bool (!r)⟩;rw[Sem.run_bind,run_eqGuard_agg w _ t _ _ _ _ (hg hr)];simp only[Result.andThen_ok];rw[run_neq_struct,this];rfl
  ·cases h
 ·cases ha;cases hb;rw[eqGuard_at_float];simp only[Sem.run_bind,Sem.run_pure,Result.andThen_ok];split at h
  ·subst_vars
   split at h
   iterate 4
    ·obtain⟨r,hr,rfl⟩:=Option.map_eq_some_iff.1 h;exact⟨_,run_float_arith w _ t _ _ _ _ hr,.float _ _⟩
   iterate 6
    ·cases h;exact⟨_,by simp[binOp,Op.floatCmp],.bool _⟩
   ·cases h
  ·cases h
 ·cases ha;cases hb;rw[eqGuard_at_complex];simp only[Sem.run_bind,Sem.run_pure,Result.andThen_ok];split at h
  ·subst_vars
   split at h
   ·obtain⟨r,hr,rfl⟩:=Option.map_eq_some_iff.1 h;exact⟨_,run_complex_sum w _ (.inl rfl) t _ _ _ _ _ _ _ hr,.cplx _ _ _⟩
   ·obtain⟨r,hr,rfl⟩:=Option.map_eq_some_iff.1 h;exact⟨_,run_complex_sum w _ (.inr rfl) t _ _ _ _ _ _ _ hr,.cplx _ _ _⟩
   ·split at h
    ·subst_vars
     obtain⟨r,hr,rfl⟩:=Option.map_eq_some_iff.1 h;exact⟨_,run_complex_mul w t _ _ _ _ _ _ hr,.cplx _ _ _⟩
    ·cases h
   ·cases h;exact⟨_,by simp[binOp,Op.complexOp,Op.Complex.cmp,Op.floatCmp,asBool],.bool _⟩
   ·cases h;exact⟨_,by simp[binOp,Op.complexOp,Op.Complex.cmp,Op.floatCmp,asBool],.bool _⟩
   ·cases h
  ·cases h
 ·cases h
theorem unV_sound {op:UnOp} {a v:V} {ca:Value} (h:unV op a=some v) (ha:Rep E a ca) (w:World):∃ cv,(Op.unary op ca).run P w = .ok cv w/\Rep E v cv:=by
 unfold unV at h;split at h
 ·cases ha;split at h
  ·cases h;exact⟨.int _ _,by simp only[Op.unary,Op.intArith,Sem.run_pure],.int _ _⟩
  ·cases h;exact⟨_,by simp only[Op.unary];rfl,by constructor⟩
  ·cases h
 ·cases ha;split at h
  ·cases h;exact⟨_,by simp[Op.unary];rfl,by constructor⟩
  ·cases h
 ·cases ha;split at h
  ·cases h;exact⟨_,by simp[Op.unary];rfl,by constructor⟩
  ·cases h
 ·cases h
theorem QDz {s d:TypeId} {a v:V} {ca:Value} (h:QEq P s d a=some v) (ha:Rep E a ca) (w:World):∃ cv,(convert s d ca).run P w = .ok cv w/\Rep E v cv:=by
 unfold QEq at h;split at h
 ·cases ha;split at h
  ·rename_i k' k h1 h2;cases h;exact⟨_,by simp[convert,run_underlying (Yy h1),run_underlying (Yy h2),Conv.intToInt];rfl,by constructor⟩
  ·rename_i k' k h1 h2;cases h;exact⟨_,by simp[convert,run_underlying (Yy h1),run_underlying (JM h2),Conv.intToFloat];rfl,by constructor⟩
  ·rename_i k' h1 h2;cases h;exact⟨_,by simp[convert,run_underlying (Yy h1),run_underlying (XW h2),Conv.intToString];rfl,by constructor⟩
  ·cases h
 ·cases ha;split at h
  ·rename_i k' k h1 h2;obtain⟨n,hn,rfl⟩:=Option.map_eq_some_iff.1 h;exact⟨_,run_convert_float_int w s d _ _ _ n (by rw[JM h1];rfl) (Yy h2) hn,.int _ _⟩
  ·rename_i k' k h1 h2;split at h
   ·subst_vars;cases h
    exact⟨_,by simp[convert,run_underlying (JM h1),run_underlying (JM h2),Conv.floatToFloat],.float _ _⟩
   ·cases h
  ·cases h
 ·cases ha;split at h
  ·rename_i k' k h1 h2;split at h
   ·subst_vars;cases h
    exact⟨_,by simp[convert,run_underlying (qt h1),run_underlying (qt h2),Conv.complexToComplex,Conv.floatToFloat],.cplx _ _ _⟩
   ·cases h
  ·cases h
 ·cases ha;split at h
  ·rename_i h1 h2;cases h;exact⟨_,by simp[convert,run_underlying (XW h1),run_underlying (XW h2)];rfl,by constructor⟩
  ·cases h
 ·cases h
theorem Rep.UL {es:List V} {cv:Value} (h:Rep E (.slice es) cv):∃ a c,cv = .slice a es.length c/\es.length<=c:=by
 cases h with
 | slice0=>exact⟨_,_,rfl,by simp⟩
 | slice _ _ _ hc=>exact⟨_,_,rfl,hc⟩
theorem Qww {b:Builtin} {ats:List TypeId} {ty:TypeId} {vs:List V} {cvs:List Value} {v:V} (h:Uo P b ats vs=some v) (hr:RepL E vs cvs) (w:World):
 ∃ cv,(∀ cs,(builtin b ats.toArray ty cs cvs.toArray).run P w = .ok (.value cv) w)/\Rep E v cv:=by
 unfold Uo at h;split at h
 ·cases hr with|cons h1 t=>cases t with|nil=>
  split at h<;>cases h;rename_i hs;obtain⟨e,he⟩:=XD hs;obtain⟨a,c,rfl,_⟩:=h1.UL;exact⟨_,fun cs=>by simp[builtin,Builtin.len_,run_underlying he];rfl,.int _ _⟩
 ·cases hr with|cons h1 t=>cases t with|nil=>
  split at h<;>cases h;rename_i hs;obtain⟨e,he⟩:=XD hs;cases h1;exact⟨.int .i64 0,fun cs=>by simp[builtin,Builtin.len_,run_underlying he,goInt],.int _ _⟩
 ·cases hr with|cons h1 t=>cases t with|nil=>
  split at h<;>cases h;rename_i hs;cases h1;exact⟨_,fun cs=>by simp only[builtin,Builtin.len_,Sem.run_bind,List.getElem?_toArray,List.getElem?_cons_zero,run_underlying (XW hs),Result.andThen_ok,Sem.run_pure];rfl,.int _ _⟩
 ·cases hr with|cons h1 t=>cases t with|cons h2 t=>cases t with|nil=>
  cases h1;cases h2;cases h;exact⟨_,fun cs=>by simp only[builtin,Builtin.max_,List.foldlM,Builtin.max2];rfl,.int _ _⟩
 ·cases hr with|cons h1 t=>cases t with|cons h2 t=>cases t with|nil=>
  cases h1;cases h2;cases h;exact⟨_,fun cs=>by simp only[builtin,Builtin.min_,List.foldlM,Builtin.min2];rfl,.int _ _⟩
 ·cases hr with|cons h1 t=>cases t with|nil=>
  cases h1;cases h;exact⟨_,fun cs=>by simp only[builtin];rfl,.float _ _⟩
 ·cases hr with|cons h1 t=>cases t with|nil=>
  cases h1;cases h;exact⟨_,fun cs=>by simp only[builtin];rfl,.float _ _⟩
 ·cases hr with|cons h1 t=>cases t with|cons h2 t=>cases t with|nil=>
  cases h1;cases h2;split at h
  ·subst_vars;cases h
   exact⟨_,fun cs=>by simp only[builtin,QEz];rfl,.cplx _ _ _⟩
  ·cases h
 ·cases h
theorem VH {id:Id} {off:Nat} {cv:Value} (h:Rep E (.ptr id off) cv):∃ b,E.ι id = .cells b/\cv = .pointer (some ⟨b,off,none⟩):=by
 cases h with|ptr h=>exact⟨_,h,rfl⟩
theorem jI {t:TypeId} {b o off:Nat} {cs:List V} {v:V} (h:Reads E b o cs) (hI:∀ j,j<cs.length->E.I b (o+j)) (hp:Xh P t cs off=some v):
 Rep E (.rptr v) (.pointer (some ⟨b,o+off,none⟩)):=by
 obtain⟨_,_,hs,_⟩:=id h;have hcells:∃ m,v.cells=(cs.drop off).take m/\off+m<=cs.length:=by
  unfold Xh at hp;split at hp
  ·rename_i m ha hz;split at hp
   ·cases hp;exact⟨m,rfl,by assumption⟩
   ·cases hp
  ·obtain⟨hlt,he⟩:=List.getElem?_eq_some_iff.1 hp;have hsc:=hs v (List.mem_of_getElem? hp);refine⟨1,?_,by omega⟩;rw[List.drop_eq_getElem_cons hlt,he];cases v<;>simp[V.cells,V.scalar] at hsc ⊢
  ·cases hp
 obtain⟨m,hm,hle⟩:=hcells;have hp':=h.part (off:=off) (n:=m);rw[<- hm] at hp';refine Rep.Qsq hp' fun j hj=>?_;rw[hm] at hj;simp at hj;rw[show o+off+j=o+(off+j) by omega];exact hI _ (by omega)
theorem yU {t:TypeId} {a b v:V} {ca cb:Value} (h:JW P t a b=some v) (ha:Rep E a ca) (hb:Rep E b cb):
 ∃ cv,(Instr.indexAt t ca cb).run P E.w = .ok cv E.w/\Rep E v cv:=by
 unfold JW at h;split at h
 ·rename_i es k i;cases hb;cases he:Wt P t with
  | none=>simp[he] at h
  | some el=>
    cases hn:Qx P el with
    | none=>simp[he,hn] at h
    | some n=>
      simp only[he,hn,Option.bind_some] at h;split at h
      ·rename_i h0;cases hi:es[i.toNat]? with
       | none=>simp[hi] at h
       | some e=>
         simp only[hi,Option.bind_some] at h;split at h
         ·rename_i hne;cases h;cases ha with
          | slice0=>simp at hi
          | @slice _ cvs b o cap s hl hc hu hcap=>
            have hlt:i.toNat<es.length:=(List.getElem?_eq_some_iff.1 hi).1;have hs:s=n:=by rw[<- hne,(hu e (List.mem_of_getElem? hi)).1]
            subst hs;refine⟨.pointer (some ⟨b,o+i.toNat*s,none⟩),?_,?_⟩
            ·have hu':=Wk he;have:0<=i/\i<(es.length:Int):=⟨h0,by omega⟩
             simp[Instr.indexAt,asIntOf,run_underlying hu',this,QK hn,Addr.add_mid]
            ·have hf:=Vq (fun e he=>(hu e he).1) hi;have hsc:∀ c∈es.flatMap V.cells,c.scalar=true:=fun c hm=>by
              obtain⟨e',he',hm'⟩:=List.mem_flatMap.1 hm;exact (hu e' he').2 c hm'
             have hr:Reads E b o (es.flatMap V.cells):=⟨cvs,hl,hsc,fun j u hj=>(hc j u hj).1⟩
             have hp:=hr.part (off:=i.toNat*s) (n:=s);rw[hf.1] at hp;refine Rep.Qsq hp fun j hj=>?_;have hj':i.toNat*s+j<cvs.length:=by rw[hl.length];omega
             have:=(hc _ _ (List.getElem?_eq_getElem hj')).2;rw[show o+i.toNat*s+j=o+(i.toNat*s+j) by omega];exact this
         ·cases h
      ·cases h
 ·rename_i cs k i;cases hb;cases he:arrT P t with
  | none=>simp[he] at h
  | some me=>
    obtain⟨m,el⟩:=me;cases hn:Qx P el with
    | none=>simp[he,hn] at h
    | some n=>
      simp only[he,hn,Option.bind_some] at h;split at h
      ·rename_i h0;obtain⟨ad,rfl⟩:=ha.Uj;obtain⟨b,o,rfl,hr,hI⟩:=ha.reads;cases hp:Xh P el cs (i.toNat*n) with
       | none=>simp[hp] at h
       | some e=>
         simp[hp] at h;subst h;refine⟨.pointer (some ⟨b,o+i.toNat*n,none⟩),?_,?_⟩
         ·have hu':=Jr he;simp[Instr.indexAt,asIntOf,run_underlying hu',h0,QK hn,Addr.add_mid,Instr.sureAddr]
         ·exact jI hr hI hp
      ·cases h
 ·rename_i id off k i;cases hb;cases he:arrT P t with
  | none=>simp[he] at h
  | some me=>
    obtain⟨m,el⟩:=me;cases hn:Qx P el with
    | none=>simp[he,hn] at h
    | some n=>
      simp only[he,hn,Option.bind_some] at h;split at h
      ·rename_i h0;cases h;obtain⟨b,hb,rfl⟩:=VH ha;have hu':=Jr he;exact⟨_,by simp[Instr.indexAt,asIntOf,run_underlying hu',h0,QK hn,Addr.add_mid,Instr.sureAddr],.ptr hb⟩
      ·cases h
 ·cases h
theorem VA {s f o t n b off:Nat} (hf:fldT P s f=some (o,t)) (hn:Qx P t=some n) (h0:n≠0) (w:World):
 (Instr.fieldAt s (.pointer (some ⟨b,off,none⟩)) f).run P w = .ok (.pointer (some ⟨b,off+o,none⟩)) w:=by
 obtain⟨fs,x,hu,hx,rfl,rfl⟩:=uY hf;simp[Instr.fieldAt,run_underlying hu,hx,Instr.sureAddr,fieldPlace,QK hn,h0,Addr.add_mid]
theorem Qbw {s f:Nat} {a v:V} {ca:Value} (h:vm P s f a=some v) (ha:Rep E a ca):
 ∃ cv,(Instr.fieldAt s ca f).run P E.w = .ok cv E.w/\Rep E v cv:=by
 unfold vm at h;split at h
 ·obtain⟨⟨o,t⟩,hf,h⟩:=Option.bind_eq_some_iff.1 h;obtain⟨n,hn,h⟩:=Option.bind_eq_some_iff.1 h;split at h
  ·cases h
  rename_i h0;obtain⟨e,hp,rfl⟩:=Option.map_eq_some_iff.1 h;obtain⟨ad,rfl⟩:=ha.Uj;obtain⟨b,off,rfl,hr,hI⟩:=ha.reads;exact⟨_,VA hf hn h0 E.w,jI hr hI hp⟩
 ·obtain⟨⟨o,t⟩,hf,h⟩:=Option.bind_eq_some_iff.1 h;obtain⟨n,hn,h⟩:=Option.bind_eq_some_iff.1 h;split at h
  ·cases h
  rename_i h0;cases h;obtain⟨b,hb,rfl⟩:=VH ha;exact⟨_,VA hf hn h0 E.w,.ptr hb⟩
 ·obtain⟨⟨o,t⟩,hf,h⟩:=Option.bind_eq_some_iff.1 h;obtain⟨n,hn,h⟩:=Option.bind_eq_some_iff.1 h;split at h
  ·cases h
  rename_i h0;cases h;cases ha with|eptr h1 h2 h3=>exact⟨_,VA hf hn h0 E.w,by rw[Nat.add_assoc];exact .eptr h1 h2 h3⟩
 ·cases h
theorem Rep.agg_inv {cs:List V} {cv:Value} (h:Rep E (.agg cs) cv):∃ cvs,cv = .agg cvs.toArray/\RepL E cs cvs/\∀ c∈cs,c.scalar=true:=by
 cases h with|agg h hs=>exact⟨_,rfl,h,hs⟩
theorem Qbq {s f o t:Nat} {cs:List V} {v:V} {ca:Value} (hf:fldT P s f=some (o,t)) (hp:Xh P t cs o=some v) (ha:Rep E (.agg cs) ca) (w:World):
 ∃ cv,(Instr.field s ca f).run P w = .ok cv w/\Rep E v cv:=by
 obtain⟨fs,x,hu,hx,rfl,rfl⟩:=uY hf;obtain⟨cvs,rfl,hr,hs⟩:=ha.agg_inv;obtain⟨cv,h1,h2⟩:=Jn (P:=P) hr hs hp w;exact⟨cv,by simp[Instr.field,run_underlying hu,hx,asAgg,h1],h2⟩
theorem atV_sound {t:TypeId} {a b v:V} {ca cb:Value} (h:atV P t a b=some v) (ha:Rep E a ca) (hb:Rep E b cb) (w:World):
 ∃ cv,(Instr.index t ca cb).run P w = .ok cv w/\Rep E v cv:=by
 unfold atV at h;split at h
 ·obtain⟨⟨m,el⟩,he,h⟩:=Option.bind_eq_some_iff.1 h;obtain⟨n,hn,h⟩:=Option.bind_eq_some_iff.1 h;split at h
  ·rename_i h0;cases hb;obtain⟨cvs,rfl,hr,hs⟩:=ha.agg_inv;obtain⟨cv,h1,h2⟩:=Jn (P:=P) hr hs h w;refine⟨cv,?_,h2⟩;simp[Instr.index,asIntOf,run_underlying (Jr he),h0,QK hn,h1]
  ·cases h
 ·cases ha;cases hb;rename_i s _ i;split at h
  ·rename_i h0;obtain⟨u,hu,rfl⟩:=Option.map_eq_some_iff.1 h;refine⟨.int .u8 u.toNat,?_,.int _ _⟩;simp[Instr.index,asIntOf,run_underlying (XW h0.1),h0.2,hu]
  ·cases h
 ·cases h
end
section
variable {P:Program} {E:Amb} {lk:Operand->Option V} {ρ:Operand->Value}
theorem uZ:∀ (cs:List V),(∀ c∈cs,c.cells=[c])->cs.flatMap V.cells=cs
 | [],_=>rfl
 | c::cs,h=>by rw[List.flatMap_cons,h c (by simp),uZ cs fun c hc=>h c (by simp[hc])];rfl
theorem Yz {d y n:Nat} {code:BoundsCode} {x:Operand} (hρ:∀ v,lk x=some v->Rep E v (ρ x)) (h:bndV d (some (lk x))=some n) (hy:n<=y) (w:World):
 (Instr.sliceBound (ρ x) y code).run P w = .ok n w:=by
 unfold bndV at h;split at h
 ·rename_i e;cases e
 ·rename_i k i e;split at h
  ·rename_i h0;cases h;have hr:=hρ _ (by injection e);cases hv:ρ x with
   | int k' j=>
     rw[hv] at hr;cases hr;have:i<=(y:Int):=by omega
     simp[Instr.sliceBound,asIntOf,h0,this]
   | _=>rw[hv] at hr;cases hr
  ·cases h
 ·cases h
theorem zm (d d':Nat) (y:Option V):bndV d (some y)=bndV d' (some y):=by unfold bndV;split<;>first|rfl|simp_all
theorem Zz {isSlice:Bool} {len cap l h m:Nat} {lo hi mx:Option Operand}
 (hlo:∀ x,lo=some x->∀ v,lk x=some v->Rep E v (ρ x)) (hhi:∀ x,hi=some x->∀ v,lk x=some v->Rep E v (ρ x)) (hmx:∀ x,mx=some x->∀ v,lk x=some v->Rep E v (ρ x))
 (el:bndV 0 (lo.map lk)=some l) (eh:bndV len (hi.map lk)=some h) (em:bndV cap (mx.map lk)=some m) (h1:l<=h) (h2:h<=m) (h3:m<=cap) (hm:mx.isSome=true->hi.isSome=true) (w:World):
 (Instr.sliceBounds isSlice len cap (lo.map ρ) (hi.map ρ) (mx.map ρ)).run P w = .ok (l,h,m) w:=by
 cases mx with
 | none=>
   simp[bndV] at em;subst em;cases hi with
   | none=>
     simp[bndV] at eh;subst eh;cases lo with
     | none=>simp[bndV] at el;subst el;simp[Instr.sliceBounds]
     | some x=>simp[Instr.sliceBounds,Yz (hlo x rfl) el h1]
   | some z=>
     cases lo with
     | none=>
       simp[bndV] at el;subst el;cases isSlice<;>simp[Instr.sliceBounds,Yz (hhi z rfl) eh h2]
     | some x=>cases isSlice<;>simp[Instr.sliceBounds,Yz (hhi z rfl) eh h2,Yz (hlo x rfl) el h1]
 | some q=>
   cases hi with
   | none=>simp at hm
   | some z=>
     cases lo with
     | none=>
       simp[bndV] at el;subst el;cases isSlice<;>simp[Instr.sliceBounds,Yz (hmx q rfl) em h3,Yz (hhi z rfl) eh h2]
     | some x=>cases isSlice<;>simp[Instr.sliceBounds,Yz (hmx q rfl) em h3,Yz (hhi z rfl) eh h2,Yz (hlo x rfl) el h1]
theorem Uy {es:List V} {s:Nat} (hu:∀ e∈es,e.cells.length=s) (l n:Nat):
 ((es.drop l).take n).flatMap V.cells=((es.flatMap V.cells).drop (l*s)).take (n*s):=by
 rw[Vp (fun e he=>hu e (List.mem_of_mem_drop he)),ya hu]
theorem uC {es:List V} {a:Option Addr} {n c:Nat} (h:Rep E (.slice es) (.slice a n c)) {l k:Nat} (hk:l+k<=es.length) (c':Nat) (hc:k<=c') (ad:Option Addr)
 (had:k=0∨∀ s,(∀ e∈es,e.cells.length=s)->ad=a.map (·.add (l*s))):Rep E (.slice ((es.drop l).take k)) (.slice ad k c'):=by
 have hlen:((es.drop l).take k).length=k:=by simp;omega
 by_cases hk0:k=0
 ·subst hk0;simp only[List.take_zero];exact .slice0 _ _
 ·cases h with
  | slice0=>simp at hk;omega
  | @slice _ cvs b o cap s hl hcc hu hcap=>
    have hs:∀ e∈es,e.cells.length=s:=fun e he=>(hu e he).1;have had:=(had.resolve_left hk0) s hs;simp only[Option.map_some,Addr.add_mid] at had;subst had;have hx:Rep E (.slice ((es.drop l).take k)) (.slice (some ⟨b,o+l*s,none⟩) ((es.drop l).take k).length c'):=by
     refine .slice (cvs:=(cvs.drop (l*s)).take (k*s)) (s:=s) ?_ ?_ ?_ ?_
     ·rw[Uy hs];exact (hl.drop _).take _
     ·intro j u hj;rw[List.getElem?_take] at hj;split at hj
      ·rw[List.getElem?_drop] at hj;have:=hcc _ _ hj;rw[show o+l*s+j=o+(l*s+j) by omega];exact this
      ·simp at hj
     ·exact fun e he=>hu e (List.mem_of_mem_drop (List.mem_of_mem_take he))
     ·omega
    rw[hlen] at hx;exact hx
theorem vv {t el n:Nat} {x:Operand} {lo hi mx:Option Operand} {v:V} {a:Option Addr} {len c:Nat} (h:cut0 (lo.map lk) (hi.map lk) (mx.map lk)=some v)
 (hlo:∀ x,lo=some x->∀ v,lk x=some v->Rep E v (ρ x)) (hhi:∀ x,hi=some x->∀ v,lk x=some v->Rep E v (ρ x)) (hmx:∀ x,mx=some x->∀ v,lk x=some v->Rep E v (ρ x))
 (he:Wt P t=some el) (hn:Qx P el=some n) (hx:ρ x = .slice a len c) (hlen:hi=none->len=0) (hcap:mx=none->c=0) (w:World):
 ∃ cv,(Instr.sliceAt t (ρ x) (lo.map ρ) (hi.map ρ) (mx.map ρ)).run P w = .ok cv w/\Rep E v cv:=by
 unfold cut0 at h;split at h
 ·cases h
 rename_i hq;obtain⟨l,el',h1⟩:=Option.bind_eq_some_iff.1 h;obtain⟨hh,eh,h2⟩:=Option.bind_eq_some_iff.1 h1;obtain⟨m,em',h3⟩:=Option.bind_eq_some_iff.1 h2;split at h3
 ·rename_i hb;obtain⟨rfl,rfl,rfl⟩:=hb;cases h3;have e1:bndV len (hi.map lk)=some 0:=by
   cases hi with
   | none=>simp[bndV,hlen rfl]
   | some z=>rw[Option.map_some,zm len 0];exact eh
  have e2:bndV c (mx.map lk)=some 0:=by
   cases mx with
   | none=>simp[bndV,hcap rfl]
   | some z=>rw[Option.map_some,zm c 0];exact em'
  have hrb:=Zz (P:=P) (E:=E) (lk:=lk) (ρ:=ρ) (isSlice:=true) (len:=len) (cap:=c) hlo hhi hmx el' e1 e2 (Nat.le_refl _) (Nat.le_refl _) (by omega)
   (fun hm=>by cases hi<;>simp_all) w
  refine⟨.slice a 0 0,?_,.snil _⟩;have hu:=Wk he;simp[Instr.sliceAt,Instr.slice,hx,run_underlying hu,hrb,QK hn]
 ·cases h3
theorem Wfz {t:TypeId} {x:Operand} {lo hi mx:Option Operand} {v:V} (h:cutV P t (lk x) (lo.map lk) (hi.map lk) (mx.map lk)=some v)
 (hρ:∀ y∈x::(lo.toList++hi.toList++mx.toList),∀ v,lk y=some v->Rep E v (ρ y)) (w:World):
 ∃ cv,(Instr.sliceAt t (ρ x) (lo.map ρ) (hi.map ρ) (mx.map ρ)).run P w = .ok cv w/\Rep E v cv:=by
 have hlo:∀ y,lo=some y->∀ v,lk y=some v->Rep E v (ρ y):=fun y e=>hρ y (by simp[e]);have hhi:∀ y,hi=some y->∀ v,lk y=some v->Rep E v (ρ y):=fun y e=>hρ y (by simp[e]);have hmx:∀ y,mx=some y->∀ v,lk y=some v->Rep E v (ρ y):=fun y e=>hρ y (by simp[e]);have hx:=hρ x (by simp);clear hρ;unfold cutV at h;split at h
 ·rename_i es e;have hr:=hx _ e;obtain⟨a,c,hv,hle⟩:=hr.UL;obtain⟨el,he,h⟩:=Option.bind_eq_some_iff.1 h;obtain⟨n,hn,h⟩:=Option.bind_eq_some_iff.1 h;split at h
  ·rename_i hall;have hes:∀ e∈es,e.cells.length=n:=fun e he=>by simpa using (List.all_eq_true.1 hall) e he
   cases mx with
   | none=>
     simp only[Option.map_none,Option.isNone_none,if_true] at h;unfold cutS at h;obtain⟨l,el',h⟩:=Option.bind_eq_some_iff.1 h;obtain⟨hh,eh,h⟩:=Option.bind_eq_some_iff.1 h;split at h
     ·rename_i hb;cases h;have hrb:=Zz (P:=P) (E:=E) (lk:=lk) (ρ:=ρ) (isSlice:=true) (len:=es.length) (cap:=c) (mx:=none) hlo hhi (by simp) el' eh (m:=c) (by simp[bndV]) hb.1 (by omega) (Nat.le_refl _) (by simp) w;rw[hv] at hr;refine⟨.slice (if c=l then a else a.map (·.add (l*n))) (hh - l) (c - l),?_,uC hr (by omega) _ (by omega) _ ?_⟩
      ·have hu:=Wk he;simp only[Option.map_none] at hrb;simp[Instr.sliceAt,Instr.slice,hv,run_underlying hu,hrb,QK hn]
      ·by_cases h0:hh - l=0
       ·exact .inl h0
       ·refine .inr fun s hs=>?_;rw[if_neg (by omega)];have:s=n:=by
         cases es with
         | nil=>simp at hb;omega
         | cons e0 es=>rw[<- hs e0 (by simp),hes e0 (by simp)]
        rw[this]
     ·cases h
   | some q=>
     simp only[Option.map_some,Option.isNone_some,Bool.false_eq_true,if_false] at h;cases hi with
     | none=>simp[cut0] at h
     | some z=>exact vv (mx:=some q) (hi:=some z) h hlo hhi hmx he hn hv (by simp) (by simp) w
  ·cases h
 ·rename_i e;have hr:=hx _ e;obtain⟨el,he,h⟩:=Option.bind_eq_some_iff.1 h;obtain⟨n,hn,h⟩:=Option.bind_eq_some_iff.1 h;have:∃ a,ρ x = .slice a 0 0:=by
   revert hr;generalize ρ x=y;intro hr;cases hr;exact⟨_,rfl⟩
  obtain⟨a,hv⟩:=this;exact vv h hlo hhi hmx he hn hv (fun _=>rfl) (fun _=>rfl) w
 ·rename_i s e;have hr:=hx _ e;split at h
  ·rename_i hc;obtain⟨hs,hm⟩:=hc;have em:mx=none:=by cases mx<;>simp_all
   subst em;unfold cutB at h;obtain⟨l,el',h⟩:=Option.bind_eq_some_iff.1 h;obtain⟨hh,eh,h⟩:=Option.bind_eq_some_iff.1 h;split at h
   ·rename_i hb;cases h;have hrb:=Zz (P:=P) (E:=E) (lk:=lk) (ρ:=ρ) (isSlice:=false) (len:=s.size) (cap:=s.size) (mx:=none) hlo hhi (by simp) el' eh (m:=s.size) (by simp[bndV]) hb.1 hb.2 (Nat.le_refl _) (by simp) w;have:ρ x = .string s:=by
     revert hr;generalize ρ x=y;intro hr;cases hr;rfl
    refine⟨.string (s.extract l hh),?_,.str _⟩;simp only[Option.map_none] at hrb;simp[Instr.sliceAt,Instr.slice,this,run_underlying (XW hs),hrb]
   ·cases h
  ·cases h
 ·rename_i cs e;have hr:=hx _ e;split at h
  ·rename_i hc;obtain⟨h1,h2,h3⟩:=hc;have em:mx=none:=by cases mx<;>simp_all
   have el0:lo=none:=by cases lo<;>simp_all
   have eh0:hi=none:=by cases hi<;>simp_all
   subst em;subst el0;subst eh0;obtain⟨⟨n,el⟩,ha,h⟩:=Option.bind_eq_some_iff.1 h;simp only at h;split at h
   ·rename_i hc;obtain⟨hz,hag,hlen,hpos⟩:=hc;cases h;obtain⟨ad,hv⟩:=hr.Uj;rw[hv] at hr;obtain⟨b,o,rfl,⟨cvs,hl,hs,hc⟩,hI⟩:=hr.reads;have hrb:=Zz (P:=P) (E:=E) (lk:=lk) (ρ:=ρ) (isSlice:=false) (len:=n) (cap:=n) (lo:=none) (hi:=none) (mx:=none) (l:=0) (h:=n) (m:=n) (by simp) (by simp) (by simp) rfl rfl rfl (Nat.zero_le _) (Nat.le_refl _) (Nat.le_refl _) (by simp) w;have hone:∀ c∈cs,c.cells=[c]:=fun c hc=>by
     have:=hs c hc;cases c<;>first|rfl|simp[V.scalar] at this
    have hflat:cs.flatMap V.cells=cs:=uZ cs hone;refine⟨.slice (some ⟨b,o,none⟩) n n,?_,?_⟩
    ·have hu:=Jr ha;have hne:¬ n=0:=by omega
     simp only[Option.map_none] at hrb ⊢;simp[Instr.sliceAt,hv,run_underlying hu,Instr.sureAddr,hrb,QK hz];intro _;simp[Addr.add]
    ·rw[<- hlen];refine .slice (cvs:=cvs) (s:=1) (by rw[hflat];exact hl) (fun j u hj=>⟨hc j u hj,hI j ?_⟩) (fun e he=>⟨by rw[hone e he];rfl,fun c hc=>by rw[hone e he] at hc;rw[List.mem_singleton.1 hc];exact hs e he⟩) (Nat.le_refl _);rw[<- hl.length];exact (List.getElem?_eq_some_iff.1 hj).1
   ·cases h
  ·cases h
 ·cases h
theorem toArray_map {α β:Type} (f:α->β) (a:Array α):(a.toList.map f).toArray=a.map f:=by rw[<- Array.toList_map,Array.toArray_toList]
theorem UG {l:List Operand} {vs:List V} (h:allV lk l=some vs) (hρ:∀ x∈l,∀ v,lk x=some v->Rep E v (ρ x)):RepL E vs (l.map ρ):=by
 induction l generalizing vs with
 | nil=>simp[allV] at h;subst h;exact .nil
 | cons x l ih=>
   simp only[allV] at h;obtain⟨v,hv,h⟩:=Option.bind_eq_some_iff.1 h;obtain⟨us,hus,h⟩:=Option.bind_eq_some_iff.1 h;cases h;exact .cons (hρ x (by simp) v hv) (ih hus fun y hy=>hρ y (by simp[hy]))
theorem yM {o:Oper} {v:V} (h:QY P lk o.op=some v) (hρ:∀ x∈o.op.operands,∀ v,lk x=some v->Rep E v (ρ x)):
 ∃ cv,(execOp ρ o).run P E.w = .ok (.value cv) E.w/\Rep E v cv:=by
 obtain⟨dst,op,type,pos,after,guard⟩:=o;simp only at h hρ;have wrap:∀ {s:Sem Value} {cv:Value},s.run P E.w = .ok cv E.w->(do pure (Next.value (<- s)):Sem Next).run P E.w = .ok (.value cv) E.w:=fun h=>by simp[h]
 unfold QY at h;split at h
 ·exact⟨_,rfl,hρ _ (by simp[Op.operands]) _ h⟩
 ·exact⟨_,rfl,hρ _ (by simp[Op.operands]) _ h⟩
 ·rename_i c a b;obtain⟨u,hu,h⟩:=Option.bind_eq_some_iff.1 h;split at h
  ·rename_i cc;have hr:=hρ c (by simp[Op.operands]) _ hu;have hc:ρ c = .bool cc:=by revert hr;generalize ρ c=y;intro hr;cases hr;rfl
   cases cc with
   | true=>
     simp only[if_true] at h;exact⟨_,by simp[execOp,hc,asBool],hρ a (by simp[Op.operands]) _ h⟩
   | false=>
     simp only[Bool.false_eq_true,if_false] at h;exact⟨_,by simp[execOp,hc,asBool],hρ b (by simp[Op.operands]) _ h⟩
  ·cases h
 ·rename_i op t x y yt;obtain⟨a,ha,h⟩:=Option.bind_eq_some_iff.1 h;obtain⟨b,hb,h⟩:=Option.bind_eq_some_iff.1 h;obtain⟨cv,h1,h2⟩:=vG (x:=x) (y:=y) h (hρ x (by simp[Op.operands]) _ ha) (hρ y (by simp[Op.operands]) _ hb) E.w;exact⟨cv,wrap h1,h2⟩
 ·rename_i op t x;obtain⟨a,ha,h⟩:=Option.bind_eq_some_iff.1 h;obtain⟨cv,h1,h2⟩:=unV_sound h (hρ x (by simp[Op.operands]) _ ha) E.w;exact⟨cv,wrap h1,h2⟩
 ·rename_i s d x;obtain⟨a,ha,h⟩:=Option.bind_eq_some_iff.1 h;obtain⟨cv,h1,h2⟩:=QDz h (hρ x (by simp[Op.operands]) _ ha) E.w;exact⟨cv,wrap h1,h2⟩
 ·rename_i fn first cap
  obtain⟨f,hf,h⟩:=Option.bind_eq_some_iff.1 h;obtain⟨c,hc,h⟩:=Option.bind_eq_some_iff.1 h;cases h;have h1:=UG hf fun x hx=>hρ x (by simp[Op.operands];exact .inl (by simpa using hx));have h2:=UG hc fun x hx=>hρ x (by simp[Op.operands];exact .inr (by simpa using hx));refine⟨_,rfl,?_⟩;have:=Rep.func (fn:=fn) h1 h2;rw[toArray_map,toArray_map] at this;exact this
 ·rename_i t x;split at h
  ·cases h
  rename_i ht;obtain⟨a,ha,rfl⟩:=Option.map_eq_some_iff.1 h;refine⟨_,wrap ?_,.iface (hρ x (by simp[Op.operands]) _ ha)⟩;unfold Instr.makeInterface;cases hu:P.underlying t with
  | none=>simp[Qo,hu] at ht
  | some d=>
    rw[Sem.run_bind,run_underlying hu];cases d<;>simp[Qo,hu] at ht<;>rfl
 ·rename_i x;obtain⟨a,ha,h⟩:=Option.bind_eq_some_iff.1 h;have hr:=hρ x (by simp[Op.operands]) _ ha;split at h
  ·cases h;obtain⟨ad,e⟩:=hr.Uj;rw[e] at hr;obtain⟨b,o,rfl,_⟩:=hr.reads;exact⟨_,by simp only[execOp,e];rfl,hr⟩
  ·cases h;obtain⟨b,hb,e⟩:=VH hr;exact⟨_,by simp only[execOp,e];rfl,by rw[<- e];exact hr⟩
  ·cases h;have:∃ ad,ρ x = .pointer (some ad):=by revert hr;generalize ρ x=y;intro hr;cases hr;exact⟨_,rfl⟩
   obtain⟨ad,e⟩:=this;exact⟨_,by simp only[execOp,e];rfl,by rw[<- e];exact hr⟩
  ·cases h;have:∃ f fs cs,ρ x = .func (.func f) fs cs:=by revert hr;generalize ρ x=y;intro hr;cases hr;exact⟨_,_,_,rfl⟩
   obtain⟨f,fs,cs,e⟩:=this;exact⟨_,by simp only[execOp,e];rfl,by rw[<- e];exact hr⟩
  ·cases h
 ·rename_i s x f;obtain⟨a,ha,h⟩:=Option.bind_eq_some_iff.1 h;obtain⟨cv,h1,h2⟩:=Qbw h (hρ x (by simp[Op.operands]) _ ha);exact⟨cv,wrap h1,h2⟩
 ·rename_i s x f;obtain⟨a,ha,h⟩:=Option.bind_eq_some_iff.1 h;split at h
  ·obtain⟨⟨o,t⟩,hf,h⟩:=Option.bind_eq_some_iff.1 h;obtain⟨cv,h1,h2⟩:=Qbq hf h (hρ x (by simp[Op.operands]) _ ha) E.w;exact⟨cv,wrap h1,h2⟩
  ·cases h
 ·rename_i t x i;obtain⟨a,ha,h⟩:=Option.bind_eq_some_iff.1 h;obtain⟨b,hb,h⟩:=Option.bind_eq_some_iff.1 h;obtain⟨cv,h1,h2⟩:=yU h (hρ x (by simp[Op.operands]) _ ha) (hρ i (by simp[Op.operands]) _ hb);exact⟨cv,wrap h1,h2⟩
 ·rename_i t x i;obtain⟨a,ha,h⟩:=Option.bind_eq_some_iff.1 h;obtain⟨b,hb,h⟩:=Option.bind_eq_some_iff.1 h;obtain⟨cv,h1,h2⟩:=atV_sound h (hρ x (by simp[Op.operands]) _ ha) (hρ i (by simp[Op.operands]) _ hb) E.w;exact⟨cv,wrap h1,h2⟩
 ·rename_i x i;obtain⟨a,ha,h⟩:=Option.bind_eq_some_iff.1 h;split at h
  ·rename_i vs;have hr:=hρ x (by simp[Op.operands]) _ ha;have:∃ cvs,ρ x = .tuple (List.toArray cvs)/\RepL E vs cvs:=by revert hr;generalize ρ x=y;intro hr;cases hr;exact⟨_,rfl,by assumption⟩
   obtain⟨cvs,e,hl⟩:=this;obtain⟨cv,h1,h2⟩:=hl.get h;exact⟨cv,wrap (by simp[Instr.extract,e,h1]),h2⟩
  ·cases h
 ·rename_i t x;obtain⟨a,ha,h⟩:=Option.bind_eq_some_iff.1 h;split at h
  ·split at h
   ·rename_i hfit;cases h;have hr:=hρ x (by simp[Op.operands]) _ ha;obtain⟨ad,e⟩:=hr.Uj;rw[e] at hr;obtain⟨b,o,rfl,hrd,_⟩:=hr.reads;obtain⟨cv,h1,h2⟩:=Jz (P:=P) (off:=0) hrd (yd hfit);exact⟨cv,wrap (by rw[e];exact h1),h2⟩
   ·cases h
  ·cases h
 ·rename_i t x lo hi mx;obtain⟨cv,h1,h2⟩:=Wfz (ρ:=ρ) h (fun y hy=>hρ y (by simp[Op.operands] at hy ⊢;exact hy)) E.w;exact⟨cv,wrap h1,h2⟩
 ·rename_i x xt t ok;have h0:=h;clear h;obtain⟨a,ha,h⟩:=Option.bind_eq_some_iff.1 h0;clear h0;split at h
  ·rename_i u v0;have hr:=hρ x (by simp[Op.operands]) _ ha;split at h
   ·cases h
   rename_i hc;simp only[not_or,ne_eq,Decidable.not_not] at hc;obtain⟨c1,c2,rfl⟩:=hc;cases h;have:∃ cv0,ρ x = .iface u cv0/\Rep E v0 cv0:=by revert hr;generalize ρ x=y;intro hr;cases hr;exact⟨_,rfl,by assumption⟩
   obtain⟨cv0,e,hr0⟩:=this;have hrun:(Instr.typeAssert (ρ x) xt u ok).run P E.w = .ok (if ok then .tuple #[cv0,.bool true] else cv0) E.w:=by
    unfold Instr.typeAssert;cases hu:P.underlying u with
    | none=>simp[Qo,hu] at c2
    | some d=>
      rw[e,Sem.run_bind,run_underlying hu];cases d<;>simp[Qo,hu] at c1 c2<;>simp<;>split<;>rfl
   refine⟨_,wrap hrun,?_⟩;cases ok
   ·exact hr0
   ·exact .tup (.cons hr0 (.cons (.bool _) .nil))
  ·cases h
 ·rename_i c;split at h
  ·rename_i b hb;obtain⟨vs,hvs,h⟩:=Option.bind_eq_some_iff.1 h;have hl:=UG hvs fun x hx=>hρ x (by simp[Op.operands,Call.operands];exact .inr (by simpa using hx));obtain⟨cv,h1,h2⟩:=Qww (ty:=type) h hl E.w;refine⟨cv,?_,h2⟩;simp only[execOp,resolve,hb,Sem.run_bind,Sem.run_pure,Result.andThen_ok,invoke];rw[<- toArray_map ρ];have:=h1 (c.args.map fun|.const _=>true|_=>false);rw[Array.toArray_toList] at this;exact this
  ·cases h
 ·cases h
end
end Go.Awp
