/- AWP, text 17: the whole walk as one function on code. -/
import Derived.Test.YtnielafbkgpgjaaGreatDoorX10
set_option linter.all false
set_option maxRecDepth 100000
set_option maxHeartbeats 8000000
namespace Go.Awp
open Go
inductive Fr where
 | seq (c:Code)
 | blk (id:Nat)
 | draw
def quiet:List Fr->Bool
 | .draw::_=>true
 | _=>false
def codeOk (ex:List Nat):Code->Bool
 | .region id ops d=>!d||ex.contains id||jf ops.toList
 | .seq x y=>codeOk ex x&&codeOk ex y
 | .cond _ x y=>codeOk ex x&&codeOk ex y
 | .block _ c=>codeOk ex c
 | .loop c=>codeOk ex c
 | .rangeFunc _ _ a b=>codeOk ex a&&codeOk ex b
 | .scope c=>codeOk ex c
 | _=>true
def stOk (ex:List Nat):List Fr->Bool
 | []=>true
 | .seq c::st=>codeOk ex c&&stOk ex st
 | _::st=>stOk ex st
def unst (C:Ctx):List Fr->(QH->ASt->Prop)->QH->ASt->Prop
 | [],K=>K
 | .seq c::st,K=>Then (AW C c (unst C st K)) (unst C st K)
 | .blk id::st,K=>Qhq id (unst C st K)
 | .draw::st,K=>unst C st K
inductive Job where
 | code (c:Code)
 | done
 | exit (id:Nat)
 | ops (ops:Array Oper) (l:List Oper)
def Wait (C:Ctx) (c:Code) (st:List Fr) (K:QH->ASt->Prop) (s:ASt):Prop:=codeOk C.ex c=true->stOk C.ex st=true->AW C c (unst C st K) s
def jN:BinOp->Value->Bool
 | .eql,.slice none _ _=>true
 | .neq,.slice none _ _=>true
 | _,_=>false
def QXz (b:BinOp):Operand->Bool
 | .const v=>jN b v
 | _=>false
def qi:Op->Bool
 | .binOp b _ _ y _=>QXz b y
 | _=>false
def nilRegion:List Oper->Bool
 | [_,o]=>qi o.op
 | _=>false
def jl:Operand->Nat
 | .tmp t=>1000000+t
 | _=>999999
@[simp] theorem condKey_tmp {t:Nat}:jl (.tmp t)=1000000+t:=rfl
@[simp] theorem condKey_const {v:Value}:jl (.const v)=999999:=rfl
def go (C:Ctx):Nat->Job->List Fr->(QH->ASt->Prop)->ASt->Prop
 | 0,_,_,_,_=>False
 | n+1,.code c,st,K,s=>match c with
   | .skip=>go C n .done st K s
   | .seq x y=>go C n (.code x) (.seq y::st) K s
   | .region id ops d=>if d=true then (if C.ex.contains id=true then Wait C (.region id ops d) st K s else go C n (.ops ops ops.toList) (.draw::st) K s) else if nilRegion ops.toList=true then Wait C (.region id ops d) st K s else go C n (.ops ops ops.toList) (.blk id::st) K s
   | .cond c x y=>if C.ex.contains (jl c)=true then Wait C (.cond c x y) st K s else ∃ b,lkA C s.τ c=some (.bool b)/\Br b (go C n (.code x) st K s) (go C n (.code y) st K s)
   | .block id c=>go C n (.code c) (.blk id::st) K s
   | .exit id=>go C n (.exit id) st K s
   | .ret=>K .ret s
   | .goto l=>K (.goto l) s
   | c=>Wait C c st K s
 | n+1,.done,st,K,s=>match st with
   | []=>K .normal s
   | .seq c::st=>go C n (.code c) st K s
   | .blk _::st=>go C n .done st K s
   | .draw::st=>go C n .done st K s
 | n+1,.exit id,st,K,s=>match st with
   | []=>K (.exit id) s
   | .seq _::st=>go C n (.exit id) st K s
   | .blk i::st=>if i=id then go C n .done st K s else go C n (.exit id) st K s
   | .draw::st=>go C n (.exit id) st K s
 | n+1,.ops ops l,st,K,s=>match l with
   | []=>go C n .done st K s
   | o::r=>ZX (VS ops s.τ o) (ZL C (quiet st) o s (fun s'=>go C n (.ops ops r) st K s') (fun v s'=>K (.panic v) s')) (WW s.n o.dst=true/\go C n (.ops ops r) st K (s.putD o.dst (.tup [])))
section
variable {C:Ctx} {K:QH->ASt->Prop} {st:List Fr}
theorem YQ (v:V) (s:ASt):unst C st K (.panic v) s=K (.panic v) s:=by
 induction st with
 | nil=>rfl
 | cons f st ih=>cases f<;>exact ih
theorem Vf (s:ASt):unst C st K .ret s=K .ret s:=by
 induction st with
 | nil=>rfl
 | cons f st ih=>cases f<;>exact ih
theorem wM (l:Nat) (s:ASt):unst C st K (.goto l) s=K (.goto l) s:=by
 induction st with
 | nil=>rfl
 | cons f st ih=>cases f<;>exact ih
theorem QQq {q:Bool} {o:Oper} {s:ASt} {K K':ASt->Prop} {X X':V->ASt->Prop} (h:ZL C q o s K X) (hk:∀ s,K s->K' s) (hx:∀ v s,X v s->X' v s):ZL C q o s K' X':=by
 have plain:JC C o s K->JC C o s K':=fun ⟨h1,v,u,h2,h3⟩=>⟨h1,v,u,h2,hk _ h3⟩
 obtain⟨dst,op,type,pos,after,guard⟩:=o;cases op with
 | call c=>
   obtain⟨callee,args,ats⟩:=c;cases callee with
   | value f=>
     obtain⟨h1,f',first,cap,args,h2,h3,h4⟩:=h;cases q with
     | true=>
       obtain⟨args',v,ids,a1,a2,a3,a4⟩:=h4;exact⟨h1,f',first,cap,args,h2,h3,args',v,ids,a1,a2,a3,hk _ a4⟩
     | false=>
     obtain⟨hent,h4⟩:=h4;refine⟨h1,f',first,cap,args,h2,h3,hent,fun E cargs hs hg ha=>(h4 E cargs hs hg ha).mono ?_⟩;rintro e w' ⟨E',e1,e2,e3⟩;refine⟨E',e1,e2,?_⟩;rcases e3 with⟨v,cv,σ',a1,a2,a3,a4⟩|⟨v,cv,σ',a1,a2,a3,a4⟩
     ·exact .inl ⟨v,cv,σ',a1,a2,hk _ a3,a4⟩
     ·exact .inr ⟨v,cv,σ',a1,a2,hx _ _ a3,a4⟩
   | _=>exact plain h
 | buildSlice t len ps=>
   by_cases hc:(C.own.contains t && !q)=true
   ·have h:litS C dst t len ps.toList s K:=by
     have h':=h;unfold ZL at h';simp only[if_pos hc] at h';exact h'
    obtain⟨h1,v,u,h2,h3⟩:=h;unfold ZL;simp only[if_pos hc];exact⟨h1,v,u,h2,hk _ h3⟩
   ·have h:JC C { dst,op:=.buildSlice t len ps,type,pos,after,guard } s K:=by
     have h':=h;unfold ZL at h';simp only[if_neg hc] at h';exact h'
    unfold ZL;simp only[if_neg hc];exact plain h
 | panic x=>
   have h':=h;unfold ZL at h' ⊢;cases q with
   | true=>exact h'
   | false=>
     obtain⟨t,v,h1,h2⟩:=h';exact⟨t,v,h1,hx _ _ h2⟩
 | _=>exact plain h
def JobOk (C:Ctx) (st:List Fr) (K:QH->ASt->Prop) (s:ASt):Job->Prop
 | .code c=>AW C c (unst C st K) s
 | .done=>unst C st K .normal s
 | .exit id=>unst C st K (.exit id) s
 | .ops ops l=>runS C (quiet st) ops l s (unst C st K .normal) (fun v=>unst C st K (.panic v))
theorem go_sound:∀ (n:Nat) (j:Job) (st:List Fr) (K:QH->ASt->Prop) (s:ASt),(∀ c,j = .code c->codeOk C.ex c=true)->stOk C.ex st=true->go C n j st K s->JobOk C st K s j
 | 0,_,_,_,_,_,_,h=>h.elim
 | n+1,.code c,st,K,s,hc,hst,h=>by
   have ih:=go_sound n;have hc:=hc c rfl;show AW C c (unst C st K) s;unfold go at h;cases c with
   | skip=>exact aw_skip (ih .done st K s (fun c e=>by cases e) hst h)
   | label l=>exact h hc hst
   | seq x y=>
     simp only[codeOk,Bool.and_eq_true] at hc;exact aw_seq (ih (.code x) (.seq y::st) K s (fun c e=>by cases e;exact hc.1) (by simp only[stOk,Bool.and_eq_true];exact⟨hc.2,hst⟩) h)
   | region id ops d=>
     simp only at h;split at h
     ·rename_i hd;subst hd;split at h
      ·exact h hc hst
      ·rename_i hex;have hf:jf ops.toList=true:=by
        simp only[codeOk,Bool.not_true,Bool.false_or,Bool.or_eq_true] at hc;exact hc.resolve_left hex
       exact Wiz hf (ih (.ops ops ops.toList) (.draw::st) K s (fun c e=>by cases e) hst h)
     ·rename_i hd;have:d=false:=by simpa using hd
      subst this;split at h
      ·exact h hc hst
      have:=ih (.ops ops ops.toList) (.blk id::st) K s (fun c e=>by cases e) hst h;refine aw_region ?_;have e1:unst C (.blk id::st) K .normal=unst C st K .normal:=rfl;have e2:(fun v=>unst C (.blk id::st) K (.panic v))=fun v=>unst C st K (.panic v):=rfl;have this:runS C false ops ops.toList s (unst C (.blk id::st) K .normal) (fun v=>unst C (.blk id::st) K (.panic v)):=this;rw[e1,e2] at this;exact this
   | cond c x y=>
     simp only at h;split at h
     ·exact h hc hst
     simp only[codeOk,Bool.and_eq_true] at hc;obtain⟨b,e,h1,h2⟩:=h;exact Qez e (fun hb=>ih (.code x) st K s (fun c e=>by cases e;exact hc.1) hst (h1 hb)) (fun hb=>ih (.code y) st K s (fun c e=>by cases e;exact hc.2) hst (h2 hb))
   | block id c=>exact aw_block (ih (.code c) (.blk id::st) K s (fun c' e=>by cases e;exact hc) hst h)
   | exit id=>exact aw_exit (ih (.exit id) st K s (fun c e=>by cases e) hst h)
   | ret=>exact aw_ret (by rw[Vf];exact h)
   | goto l=>exact aw_goto (by rw[wM];exact h)
   | _=>exact h hc hst
 | n+1,.done,st,K,s,_,hst,h=>by
   have ih:=go_sound n;unfold go at h;show unst C st K .normal s;cases st with
   | nil=>exact h
   | cons f st=>cases f with
     | seq c=>
       simp only[stOk,Bool.and_eq_true] at hst;exact ih (.code c) st K s (fun c' e=>by cases e;exact hst.1) hst.2 h
     | blk i=>exact ih .done st K s (fun c e=>by cases e) hst h
     | draw=>exact ih .done st K s (fun c e=>by cases e) hst h
 | n+1,.exit id,st,K,s,_,hst,h=>by
   have ih:=go_sound n;unfold go at h;show unst C st K (.exit id) s;cases st with
   | nil=>exact h
   | cons f st=>cases f with
     | seq c=>
       simp only[stOk,Bool.and_eq_true] at hst;exact ih (.exit id) st K s (fun c' e=>by cases e) hst.2 h
     | draw=>exact ih (.exit id) st K s (fun c e=>by cases e) hst h
     | blk i=>
       simp only at h;show (if id=i then unst C st K .normal s else unst C st K (.exit id) s);split at h
       ·rename_i e;rw[if_pos e.symm];exact ih .done st K s (fun c e=>by cases e) hst h
       ·rename_i e;rw[if_neg (fun e'=>e e'.symm)];exact ih (.exit id) st K s (fun c e=>by cases e) hst h
 | n+1,.ops ops l,st,K,s,_,hst,h=>by
   have ih:=go_sound n;unfold go at h;show runS C (quiet st) ops l s _ _;cases l with
   | nil=>exact ih .done st K s (fun c e=>by cases e) hst h
   | cons o r=>
     simp only at h;unfold runS;unfold ZX at h ⊢;split at h
     ·exact⟨fun hb=>QQq (h.1 hb) (fun s' hk=>ih (.ops ops r) st K s' (fun c e=>by cases e) hst hk) (fun v s' hx=>by rw[YQ];exact hx),
       fun hb=>⟨(h.2 hb).1,ih (.ops ops r) st K _ (fun c e=>by cases e) hst (h.2 hb).2⟩⟩
     ·exact h
section rules
variable {n:Nat} {s:ASt} {ops:Array Oper} {r:List Oper} {τ:List (Nat × V)} {σ:Qa} {N lv nx t:Nat} {v:V}
@[simp] theorem go_skip:go C (n+1) (.code .skip) st K s=go C n .done st K s:=rfl
@[simp] theorem go_label {l:Nat}:go C (n+1) (.code (.label l)) st K s=Wait C (.label l) st K s:=rfl
theorem QNw {l:Nat} (h:go C 1000000 .done st K s):Wait C (.label l) st K s:=fun _ hst=>QHq (go_sound 1000000 .done st K s (fun c e=>by cases e) hst h)
@[simp] theorem go_seq {x y:Code}:go C (n+1) (.code (.seq x y)) st K s=go C n (.code x) (.seq y::st) K s:=rfl
def RegN (C:Ctx) (n:Nat) (b:Bool) (id:Nat) (ops:Array Oper) (l:List Oper) (st:List Fr) (K:QH->ASt->Prop) (s:ASt):Prop:=
 if b=true then Wait C (.region id ops false) st K s else go C n (.ops ops l) (.blk id::st) K s
@[simp] theorem go_region1 {id:Nat} {a:Oper}:go C (n+1) (.code (.region id #[a] false)) st K s=go C n (.ops #[a] [a]) (.blk id::st) K s:=rfl
@[simp] theorem go_region2 {id:Nat} {a b:Oper}:go C (n+1) (.code (.region id #[a,b] false)) st K s=RegN C n (qi b.op) id #[a,b] [a,b] st K s:=rfl
@[simp] theorem go_region3 {id:Nat} {a b c:Oper} {l:List Oper}:go C (n+1) (.code (.region id (a::b::c::l).toArray false)) st K s=go C n (.ops (a::b::c::l).toArray (a::b::c::l)) (.blk id::st) K s:=rfl
@[simp] theorem RegN_false {id:Nat} {ops:Array Oper} {l:List Oper}:RegN C n false id ops l st K s=go C n (.ops ops l) (.blk id::st) K s:=rfl
@[simp] theorem nilVal_int {b:BinOp} {k:IntKind} {v:Int}:jN b (.int k v)=false:=by cases b<;>rfl
@[simp] theorem nilVal_string {b:BinOp} {v:ByteArray}:jN b (.string v)=false:=by cases b<;>rfl
@[simp] theorem nilVal_nilIface {b:BinOp}:jN b .nilIface=false:=by cases b<;>rfl
@[simp] theorem nilOpd_const {b:BinOp} {v:Value}:QXz b (.const v)=jN b v:=rfl
@[simp] theorem nilOp_binOp {b:BinOp} {t u:TypeId} {x y:Operand}:qi (.binOp b t x y u)=QXz b y:=rfl
@[simp] theorem nilOp_move {x}:qi (.move x)=false:=rfl
@[simp] theorem nilOp_assign {x}:qi (.assign x)=false:=rfl
@[simp] theorem nilOp_alloc {t}:qi (.alloc t)=false:=rfl
@[simp] theorem nilOp_load {t x}:qi (.load t x)=false:=rfl
@[simp] theorem nilOp_store {t x y}:qi (.store t x y)=false:=rfl
@[simp] theorem nilOp_unOp {u t x}:qi (.unOp u t x)=false:=rfl
@[simp] theorem nilOp_call {c}:qi (.call c)=false:=rfl
def RegD (C:Ctx) (n:Nat) (b:Bool) (id:Nat) (ops:Array Oper) (l:List Oper) (st:List Fr) (K:QH->ASt->Prop) (s:ASt):Prop:=
 if b=true then Wait C (.region id ops true) st K s else go C n (.ops ops l) (.draw::st) K s
@[simp] theorem go_regionD {id:Nat} {l:List Oper}:go C (n+1) (.code (.region id l.toArray true)) st K s=RegD C n (C.ex.contains id) id l.toArray l st K s:=rfl
@[simp] theorem RegD_true {id:Nat} {l:List Oper}:RegD C n true id ops l st K s=Wait C (.region id ops true) st K s:=rfl
@[simp] theorem RegD_false {id:Nat} {l:List Oper}:RegD C n false id ops l st K s=go C n (.ops ops l) (.draw::st) K s:=rfl
@[simp] theorem go_block {id:Nat} {c:Code}:go C (n+1) (.code (.block id c)) st K s=go C n (.code c) (.blk id::st) K s:=rfl
@[simp] theorem go_exit {id:Nat}:go C (n+1) (.code (.exit id)) st K s=go C n (.exit id) st K s:=rfl
@[simp] theorem go_ret:go C (n+1) (.code .ret) st K s=K .ret s:=rfl
@[simp] theorem go_goto {l:Nat}:go C (n+1) (.code (.goto l)) st K s=K (.goto l) s:=rfl
@[simp] theorem go_loop {c:Code}:go C (n+1) (.code (.loop c)) st K s=Wait C (.loop c) st K s:=rfl
@[simp] theorem go_scope {c:Code}:go C (n+1) (.code (.scope c)) st K s=Wait C (.scope c) st K s:=rfl
@[simp] theorem go_done_nil:go C (n+1) .done [] K s=K .normal s:=rfl
@[simp] theorem go_done_seq {c:Code}:go C (n+1) .done (.seq c::st) K s=go C n (.code c) st K s:=rfl
@[simp] theorem go_done_blk {i:Nat}:go C (n+1) .done (.blk i::st) K s=go C n .done st K s:=rfl
@[simp] theorem go_done_draw:go C (n+1) .done (.draw::st) K s=go C n .done st K s:=rfl
@[simp] theorem go_exit_nil {id:Nat}:go C (n+1) (.exit id) [] K s=K (.exit id) s:=rfl
@[simp] theorem go_exit_seq {id:Nat} {c:Code}:go C (n+1) (.exit id) (.seq c::st) K s=go C n (.exit id) st K s:=rfl
def ExitB (C:Ctx) (n:Nat) (b:Bool) (id:Nat) (st:List Fr) (K:QH->ASt->Prop) (s:ASt):Prop:=go C n (if b=true then .done else .exit id) st K s
@[simp] theorem go_exit_blk {id i:Nat}:go C (n+1) (.exit id) (.blk i::st) K s=ExitB C n (i == id) id st K s:=by
 unfold ExitB;show (if i=id then _ else _)=_;by_cases e:i=id<;>simp[e]
@[simp] theorem ExitB_true {id:Nat}:ExitB C n true id st K s=go C n .done st K s:=rfl
@[simp] theorem ExitB_false {id:Nat}:ExitB C n false id st K s=go C n (.exit id) st K s:=rfl
def Qv (C:Ctx) (n:Nat) (r:Option V) (x y:Code) (st:List Fr) (K:QH->ASt->Prop) (s:ASt):Prop:=
 ∃ b,r=some (.bool b)/\Br b (go C n (.code x) st K s) (go C n (.code y) st K s)
def CondX (C:Ctx) (n:Nat) (w:Bool) (c:Operand) (r:Option V) (x y:Code) (st:List Fr) (K:QH->ASt->Prop) (s:ASt):Prop:=
 if w=true then Wait C (.cond c x y) st K s else Qv C n r x y st K s
@[simp] theorem go_cond {c:Operand} {x y:Code}:go C (n+1) (.code (.cond c x y)) st K s=CondX C n (C.ex.contains (jl c)) c (lkA C s.τ c) x y st K s:=rfl
@[simp] theorem CondX_true {c:Operand} {v:Option V} {x y:Code}:CondX C n true c v x y st K s=Wait C (.cond c x y) st K s:=rfl
@[simp] theorem CondX_false {c:Operand} {v:Option V} {x y:Code}:CondX C n false c v x y st K s=Qv C n v x y st K s:=rfl
@[simp] theorem CondC_true {x y:Code}:Qv C n (some (.bool true)) x y st K s=go C n (.code x) st K s:=by
 simp[Qv,Br]
@[simp] theorem CondC_false {x y:Code}:Qv C n (some (.bool false)) x y st K s=go C n (.code y) st K s:=by
 simp[Qv,Br]
theorem Qv.mk {b:Bool} {x y:Code} (h:b=true->go C n (.code x) st K s) (k:b=false->go C n (.code y) st K s):Qv C n (some (.bool b)) x y st K s:=⟨b,rfl,h,k⟩
@[simp] theorem go_ops_nil:go C (n+1) (.ops ops []) st K s=go C n .done st K s:=rfl
def OpO (C:Ctx) (n:Nat) (dst:Option Tmp) (op:Op) (ops:Array Oper) (r:List Oper) (st:List Fr) (K:QH->ASt->Prop) (s:ASt):Prop:=
 ZL C (quiet st) { dst,op,type:=0,pos:= "",after:=#[],guard:=none } s (fun s'=>go C n (.ops ops r) st K s') (fun v s'=>K (.panic v) s')
def zt (C:Ctx) (n:Nat) (g:Option Bool) (dst:Option Tmp) (op:Op) (ops:Array Oper) (r:List Oper) (st:List Fr) (K:QH->ASt->Prop) (s:ASt):Prop:=
 ZX g (OpO C n dst op ops r st K s) (WW s.n dst=true/\go C n (.ops ops r) st K (s.putD dst (.tup [])))
theorem stepS_eq {q:Bool} {o o':Oper} (h1:o.op=o'.op) (h2:o.dst=o'.dst) {s:ASt} {K:ASt->Prop} {X:V->ASt->Prop}:ZL C q o s K X=ZL C q o' s K X:=by
 obtain⟨d,op,ty,ps,af,gd⟩:=o;obtain⟨d',op',ty',ps',af',gd'⟩:=o';simp only at h1 h2;subst h1;subst h2;rfl
@[simp] theorem go_op {dst:Option Tmp} {op:Op} {type:TypeId} {pos:String} {after:Array Edge}:
 go C (n+1) (.ops ops ({ dst,op,type,pos,after,guard:=none } :: r)) st K s=OpO C n dst op ops r st K s:=by
 show ZX (some true) _ _=_;unfold ZX Br OpO;simp only[true_implies,Bool.true_eq_false,false_implies,and_true];exact stepS_eq rfl rfl
def yg:List Oper->Nat->Option Tmp
 | [],_=>none
 | o::_,0=>o.dst
 | _::l,j+1=>yg l j
def Whw (τ:List (Nat × V)) (want:Bool):Option Tmp->Option Bool
 | none=>none
 | some t=>match τ.lookup t with
   | some (.bool b)=>some (b == want)
   | some (.tup [])=>some false
   | _=>none
theorem dstAt_eq (l:List Oper) (j:Nat):(l[j]?).bind (·.dst)=yg l j:=by
 induction l generalizing j with
 | nil=>rfl
 | cons o l ih=>cases j with
   | zero=>rfl
   | succ j=>exact ih j
@[simp] theorem go_opG {dst:Option Tmp} {op:Op} {type:TypeId} {pos:String} {after:Array Edge} {j:Nat} {want:Bool} {l:List Oper}:
 go C (n+1) (.ops l.toArray ({ dst,op,type,pos,after,guard:=some (j,want) } :: r)) st K s=zt C n (Whw s.τ want (yg l j)) dst op l.toArray r st K s:=by
 show ZX (VS l.toArray s.τ _) _ _=_;unfold zt OpO;have e:VS l.toArray s.τ { dst,op,type,pos,after,guard:=some (j,want) } = Whw s.τ want (yg l j):=by
  unfold VS;simp only[List.getElem?_toArray,dstAt_eq];cases yg l j<;>rfl
 rw[e];congr 1
@[simp] theorem GuardO_true {dst:Option Tmp} {op:Op}:zt C n (some true) dst op ops r st K s=OpO C n dst op ops r st K s:=by simp[zt,ZX,Br]
@[simp] theorem GuardO_false {op:Op}:zt C n (some false) (some t) op ops r st K ⟨τ,σ,N,lv,nx⟩=(t<N/\go C n (.ops ops r) st K ⟨(t,.tup [])::τ,σ,N,lv,nx⟩):=by simp[zt,ZX,Br,WW,ASt.putD]
def ResO (C:Ctx) (n:Nat) (q:Option (V × Upd)) (dst:Option Tmp) (ops:Array Oper) (r:List Oper) (st:List Fr) (K:QH->ASt->Prop) (s:ASt):Prop:=
 WW s.n dst=true/\opK q fun v u=>go C n (.ops ops r) st K ((({ s with σ:=u.app s.σ (s.lv,s.nx) }:ASt).next u.Wf).putD dst v)
@[simp] theorem ResO_pure:ResO C n (some (v,.none)) (some t) ops r st K ⟨τ,σ,N,lv,nx⟩=(t<N/\go C n (.ops ops r) st K ⟨(t,v)::τ,σ,N,lv,nx⟩):=by
 simp[ResO,qQ,WW,Upd.app,Upd.Wf,ASt.next,ASt.putD]
@[simp] theorem ResO_new {b:Blk}:ResO C n (some (v,.new b)) (some t) ops r st K ⟨τ,σ,N,lv,nx⟩=(t<N/\go C n (.ops ops r) st K ⟨(t,v)::τ,((lv,nx),b)::σ,N,lv,nx+1⟩):=by
 simp[ResO,qQ,WW,Upd.app,Upd.Wf,ASt.next,ASt.putD]
@[simp] theorem ResO_put {b:Blk} {id:Id}:ResO C n (some (v,.put id b)) (some t) ops r st K ⟨τ,σ,N,lv,nx⟩=(t<N/\go C n (.ops ops r) st K ⟨(t,v)::τ,Qa.put σ id b,N,lv,nx⟩):=by
 simp[ResO,qQ,WW,Upd.app,Upd.Wf,ASt.next,ASt.putD]
@[simp] theorem ResO_put_none {b:Blk} {id:Id}:ResO C n (some (v,.put id b)) none ops r st K ⟨τ,σ,N,lv,nx⟩=go C n (.ops ops r) st K ⟨τ,Qa.put σ id b,N,lv,nx⟩:=by
 simp[ResO,qQ,WW,Upd.app,Upd.Wf,ASt.next,ASt.putD]
def Wr (v:Option V):Option (V × Upd):=v.map (·,.none)
@[simp] theorem pureP_some (v:V):Wr (some v)=some (v,.none):=rfl
section opRules
variable {dst:Option Tmp}
theorem QP {op:Op} (h:∀ c,op≠.call c) (h':∀ t l ps,op≠.buildSlice t l ps:=by intros;simp) (h'':∀ x,op≠.panic x:=by intros;simp):OpO C n dst op ops r st K s=ResO C n (opA C.P (lkA C s.τ) s.σ.get (s.lv,s.nx) op) dst ops r st K s:=by
 cases op<;>first|rfl|exact absurd rfl (h _)|exact absurd rfl (h' _ _ _)|exact absurd rfl (h'' _)
theorem WL {P:Program} {lk:Operand->Option V} {get:Id->Option Blk} {j:Id} {op:Op} (h1:QN P lk get j op=none) (h2:Xc P lk get op=none) (h3:WO P lk get j op=none) (h4:Ws P lk get j op=none:=by rfl):opA P lk get j op=Wr (QY P lk op):=by
 unfold opA Wr;cases QY P lk op with
 | some v=>rfl
 | none=>simp only[h1,h2,h3,h4];rfl
@[simp] theorem OpO_move {x:Operand}:OpO C n dst (.move x) ops r st K s=ResO C n (Wr (lkA C s.τ x)) dst ops r st K s:=by
 rw[QP (by simp),WL rfl rfl rfl];rfl
@[simp] theorem OpO_assign {x:Operand}:OpO C n dst (.assign x) ops r st K s=ResO C n (Wr (lkA C s.τ x)) dst ops r st K s:=by
 rw[QP (by simp),WL rfl rfl rfl];rfl
def ifV (c:Bool) (a b:Option V):Option V:=if c=true then a else b
@[simp] theorem ifV_true (a b:Option V):ifV true a b=a:=rfl
@[simp] theorem ifV_false (a b:Option V):ifV false a b=b:=rfl
@[simp] theorem ifV_bool (c a b:Bool):ifV c (some (.bool a)) (some (.bool b))=some (.bool (if c=true then a else b)):=by cases c<;>rfl
def pickV:Option V->Option V->Option V->Option V
 | some (.bool c),a,b=>ifV c a b
 | _,_,_=>none
@[simp] theorem OpO_pick {c a b:Operand}:OpO C n dst (.pick c a b) ops r st K s=ResO C n (Wr (pickV (lkA C s.τ c) (lkA C s.τ a) (lkA C s.τ b))) dst ops r st K s:=by
 rw[QP (by simp),WL rfl rfl rfl];congr 2;simp only[QY];cases lkA C s.τ c with
 | none=>rfl
 | some v=>cases v<;>rfl
@[simp] theorem OpO_binOp {op:BinOp} {ty ty':TypeId} {x y:Operand}:OpO C n dst (.binOp op ty x y ty') ops r st K s=ResO C n (Wr ((lkA C s.τ x).bind fun a=>(lkA C s.τ y).bind fun b=>binV C.P (isC x||isC y) op ty a b)) dst ops r st K s:=by
 rw[QP (by simp),WL rfl rfl rfl];rfl
@[simp] theorem OpO_unOp {op:UnOp} {ty:TypeId} {x:Operand}:OpO C n dst (.unOp op ty x) ops r st K s=ResO C n (Wr ((lkA C s.τ x).bind (unV op))) dst ops r st K s:=by
 rw[QP (by simp),WL rfl rfl rfl];rfl
@[simp] theorem OpO_convert {a b:TypeId} {x:Operand}:OpO C n dst (.convert a b x) ops r st K s=ResO C n (Wr ((lkA C s.τ x).bind (QEq C.P a b))) dst ops r st K s:=by
 rw[QP (by simp),WL rfl rfl rfl];rfl
@[simp] theorem OpO_makeFunc {fn:Fn} {f c:List Operand}:OpO C n dst (.makeFunc fn f.toArray c.toArray) ops r st K s=ResO C n (Wr ((allV (lkA C s.τ) f).bind fun f=>(allV (lkA C s.τ) c).bind fun c=>some (.func fn f c))) dst ops r st K s:=by
 rw[QP (by simp),WL rfl rfl rfl];rfl
@[simp] theorem OpO_fieldAddr {t f:Nat} {x:Operand}:OpO C n dst (.fieldAddr t x f) ops r st K s=ResO C n (Wr ((lkA C s.τ x).bind (vm C.P t f))) dst ops r st K s:=by
 rw[QP (by simp),WL rfl rfl rfl];rfl
@[simp] theorem OpO_extract {i:Nat} {x:Operand}:OpO C n dst (.extract x i) ops r st K s=ResO C n (Wr ((lkA C s.τ x).bind fun|.tup vs=>vs[i]?|_=>none)) dst ops r st K s:=by
 rw[QP (by simp),WL rfl rfl rfl];rfl
@[simp] theorem OpO_index {ty:TypeId} {x i:Operand}:OpO C n dst (.index ty x i) ops r st K s=ResO C n (Wr ((lkA C s.τ x).bind fun a=>(lkA C s.τ i).bind fun b=>atV C.P ty a b)) dst ops r st K s:=by
 rw[QP (by simp),WL rfl rfl rfl];rfl
@[simp] theorem OpO_nilCheck {x:Operand}:OpO C n dst (.nilCheck x) ops r st K s=ResO C n (Wr (QY C.P (lkA C s.τ) (.nilCheck x))) dst ops r st K s:=by
 rw[QP (by simp),WL rfl rfl rfl]
@[simp] theorem OpO_field {ty:TypeId} {i:Nat} {x:Operand}:OpO C n dst (.field ty x i) ops r st K s=ResO C n (Wr (QY C.P (lkA C s.τ) (.field ty x i))) dst ops r st K s:=by
 rw[QP (by simp),WL rfl rfl rfl]
@[simp] theorem OpO_makeInterface {ty:TypeId} {x:Operand}:OpO C n dst (.makeInterface ty x) ops r st K s=ResO C n (Wr (QY C.P (lkA C s.τ) (.makeInterface ty x))) dst ops r st K s:=by
 rw[QP (by simp),WL rfl rfl rfl]
@[simp] theorem OpO_alloc {ty:TypeId}:OpO C n dst (.alloc ty) ops r st K s=ResO C n ((QQ C.P ty).map fun z=>(.ptr (s.lv,s.nx) 0,.new (.cells ty z.cells))) dst ops r st K s:=by
 rw[QP (by simp)];have e:opA C.P (lkA C s.τ) s.σ.get (s.lv,s.nx) (.alloc ty)=((QQ C.P ty).map fun z=>(.ptr (s.lv,s.nx) 0,.new (.cells ty z.cells))):=by
  unfold opA;simp only[show QY C.P (lkA C s.τ) (.alloc ty)=none from rfl];cases h:QQ C.P ty<;>simp[QN,WO,Xc,Ws,h]
 rw[e]
@[simp] theorem OpO_box {ty:TypeId} {x:Operand}:OpO C n dst (.box ty x) ops r st K s=ResO C n ((lkA C s.τ x).bind fun v=>if v.wf=true then some (.ptr (s.lv,s.nx) 0,.new (.cells ty v.cells)) else none) dst ops r st K s:=by
 rw[QP (by simp)];have e:opA C.P (lkA C s.τ) s.σ.get (s.lv,s.nx) (.box ty x)=((lkA C s.τ x).bind fun v=>if v.wf=true then some (.ptr (s.lv,s.nx) 0,.new (.cells ty v.cells)) else none):=by
  unfold opA;simp only[show QY C.P (lkA C s.τ) (.box ty x)=none from rfl];cases h:lkA C s.τ x with
  | none=>simp[QN,WO,Xc,Ws,h]
  | some v=>by_cases hw:v.wf=true<;>simp[QN,WO,Xc,Ws,h,hw]
 rw[e]
def Qxq (P:Program) (ty:TypeId) (get:Id->Option Blk):Option V->Option (V × Upd)
 | some (.ptr id off)=>(get id).bind fun|.cells _ cs=>(Xh P ty cs off).map (·,.none)|_=>none
 | some (.eptr id ver s i off)=>(get id).bind fun
    | .vec _ s' es ver' _=>if ver=ver'/\s=s' then (es[i]?).bind fun e=>(if off=0/\fitV P ty e=true then some e else Xh P ty e.cells off).map (·,.none) else none
    | _=>none
 | _=>none
def uN (P:Program) (ty:TypeId) (get:Id->Option Blk):Option V->Option (V × Upd)
 | some (.rptr v)=>if fitV P ty v=true then some (v,.none) else none
 | some (.ptr id off)=>match get id with
   | some (.cells _ cs)=>Wr (Xh P ty cs off)
   | _=>none
 | some (.eptr id ver z i off)=>match get id with
   | some (.vec _ z' es ver' _)=>if ver=ver'/\z=z' then Wr ((es[i]?).bind fun e=>if off=0/\fitV P ty e=true then some e else Xh P ty e.cells off) else none
   | _=>none
 | _=>none
theorem opA_load {P:Program} {lk:Operand->Option V} {get:Id->Option Blk} {j:Id} {ty:TypeId} {x:Operand}:opA P lk get j (.load ty x)=uN P ty get (lk x):=by
 have hv:WO P lk get j (.load ty x)=none:=rfl;have hsb:Xc P lk get (.load ty x)=none:=rfl;have hmb:Ws P lk get j (.load ty x)=none:=rfl;unfold opA;rw[hv,hsb,hmb];have hp:QY P lk (.load ty x)=(lk x).bind fun|.rptr v=>if fitV P ty v=true then some v else none|_=>none:=rfl
 have hs:QN P lk get j (.load ty x)=Qxq P ty get (lk x):=by
  cases h:lk x with
  | none=>simp[QN,Qxq,h]
  | some v=>cases v<;>simp[QN,Qxq,h]<;>rfl
 rw[hp,hs];cases h:lk x with
 | none=>rfl
 | some v=>
   cases v
   case rptr v=>
    simp only[Option.bind_some,uN];by_cases hf:fitV P ty v=true
    ·rw[if_pos hf,if_pos hf]
    ·rw[if_neg hf,if_neg hf];rfl
   case ptr id off=>
    simp only[Option.bind_some,uN,Qxq];cases get id with
    | none=>rfl
    | some b=>cases b with
      | cells t cs=>simp only[Option.bind_some,Wr];cases Xh P ty cs off<;>rfl
      | vec=>rfl
      | map=>rfl
   case eptr id ver z i off=>
    simp only[Option.bind_some,uN,Qxq];cases get id with
    | none=>rfl
    | some b=>cases b with
      | cells=>rfl
      | map=>rfl
      | vec t z' es ver' wr=>
        simp only[Option.bind_some];by_cases hc:ver=ver'/\z=z'
        ·rw[if_pos hc,if_pos hc];cases es[i]? with
         | none=>rfl
         | some e=>simp only[Option.bind_some,Wr];generalize (if off=0/\fitV P ty e=true then some e else Xh P ty e.cells off)=q;cases q<;>rfl
        ·rw[if_neg hc,if_neg hc]
   all_goals rfl
@[simp] theorem OpO_load {ty:TypeId} {x:Operand}:OpO C n dst (.load ty x) ops r st K s=ResO C n (uN C.P ty s.σ.get (lkA C s.τ x)) dst ops r st K s:=by
 rw[QP (by simp),opA_load]
@[simp] theorem OpO_store {ty:TypeId} {x y:Operand}:OpO C n dst (.store ty x y) ops r st K s=ResO C n (QN C.P (lkA C s.τ) s.σ.get (s.lv,s.nx) (.store ty x y)) dst ops r st K s:=by
 rw[QP (by simp)];congr 1;unfold opA;simp only[show QY C.P (lkA C s.τ) (.store ty x y)=none from rfl,show WO C.P (lkA C s.τ) s.σ.get (s.lv,s.nx) (.store ty x y)=none from rfl,show Xc C.P (lkA C s.τ) s.σ.get (.store ty x y)=none from rfl,show Ws C.P (lkA C s.τ) s.σ.get (s.lv,s.nx) (.store ty x y)=none from rfl];split<;>simp_all
@[simp] theorem OpO_typeAssert {x:Operand} {xt t:TypeId} {ok:Bool}:OpO C n dst (.typeAssert x xt t ok) ops r st K s=ResO C n (Wr (QY C.P (lkA C s.τ) (.typeAssert x xt t ok))) dst ops r st K s:=by
 rw[QP (by simp),WL rfl rfl rfl]
def jW (P:Program) (t:TypeId) (ok:Bool) (get:Id->Option Blk):Option V->Option V->Option (V × Upd)
 | some (.mapv ks vs),some k=>Wr (XS P t ks vs k ok)
 | some .mnil,some k=>Wr (XS P t [] [] k ok)
 | some (.map id),some k=>match get id with
   | some (.map ks vs _)=>Wr (XS P t ks vs k ok)
   | _=>none
 | _,_=>none
@[simp] theorem OpO_lookup {t:TypeId} {x i:Operand} {ok:Bool}:OpO C n dst (.lookup t x i ok) ops r st K s=ResO C n (jW C.P t ok s.σ.get (lkA C s.τ x) (lkA C s.τ i)) dst ops r st K s:=by
 rw[QP (by simp)];congr 1;unfold opA;simp only[show QY C.P (lkA C s.τ) (.lookup t x i ok)=none from rfl,show WO C.P (lkA C s.τ) s.σ.get (s.lv,s.nx) (.lookup t x i ok)=none from rfl,show Xc C.P (lkA C s.τ) s.σ.get (.lookup t x i ok)=none from rfl,show QN C.P (lkA C s.τ) s.σ.get (s.lv,s.nx) (.lookup t x i ok)=none from rfl,Ws];cases lkA C s.τ x with
 | none=>simp[jW]
 | some m=>
   cases lkA C s.τ i with
   | none=>cases m<;>simp[jW]
   | some k=>
     cases m
     case map id=>
      simp only[Option.bind_some,jW];cases s.σ.get id with
      | none=>rfl
      | some b=>
        cases b
        case map ks vs clk=>simp only[Option.bind_some,Wr];cases XS C.P t ks vs k ok<;>rfl
        all_goals rfl
     case mapv ks vs=>simp only[Option.bind_some,jW,Wr];cases XS C.P t ks vs k ok<;>rfl
     case mnil=>simp only[Option.bind_some,jW,Wr];cases XS C.P t [] [] k ok<;>rfl
     all_goals rfl
def updR (P:Program) (t:TypeId) (get:Id->Option Blk):Option V->Option V->Option V->Option (V × Upd)
 | some (.map id),some k,some v=>match get id with
   | some (.map ks vs clk)=>(setM P t ks vs clk k v).map (V.any,Upd.put id ·)
   | _=>none
 | _,_,_=>none
@[simp] theorem uq {t:TypeId} {x i y:Operand}:OpO C n dst (.mapUpdate t x i y) ops r st K s=ResO C n (updR C.P t s.σ.get (lkA C s.τ x) (lkA C s.τ i) (lkA C s.τ y)) dst ops r st K s:=by
 rw[QP (by simp)];congr 1;unfold opA;simp only[show QY C.P (lkA C s.τ) (.mapUpdate t x i y)=none from rfl,show WO C.P (lkA C s.τ) s.σ.get (s.lv,s.nx) (.mapUpdate t x i y)=none from rfl,show Xc C.P (lkA C s.τ) s.σ.get (.mapUpdate t x i y)=none from rfl,show QN C.P (lkA C s.τ) s.σ.get (s.lv,s.nx) (.mapUpdate t x i y)=none from rfl,Ws];cases lkA C s.τ x with
 | none=>simp[updR]
 | some m=>
   cases lkA C s.τ i with
   | none=>cases m<;>simp[updR]
   | some k=>
     cases lkA C s.τ y with
     | none=>cases m<;>simp[updR]
     | some v=>
       cases m
       case map id=>
        simp only[Option.bind_some,updR];cases s.σ.get id with
        | none=>rfl
        | some b=>
          cases b
          case map ks vs clk=>simp only[Option.bind_some];cases setM C.P t ks vs clk k v<;>rfl
          all_goals rfl
       all_goals rfl
@[simp] theorem OpO_insert {t:TypeId} {x i y:Operand}:OpO C n dst (.insert t x i y) ops r st K s=ResO C n (updR C.P t s.σ.get (lkA C s.τ x) (lkA C s.τ i) (lkA C s.τ y)) dst ops r st K s:=by
 rw[<- uq (dst:=dst)];rfl
@[simp] theorem OpO_makeMap {t:TypeId} {q:Option Operand}:OpO C n dst (.makeMap t q) ops r st K s=ResO C n (Ws C.P (lkA C s.τ) s.σ.get (s.lv,s.nx) (.makeMap t q)) dst ops r st K s:=by
 rw[QP (by simp)];congr 1;unfold opA;simp only[show QY C.P (lkA C s.τ) (.makeMap t q)=none from rfl,show WO C.P (lkA C s.τ) s.σ.get (s.lv,s.nx) (.makeMap t q)=none from rfl,show Xc C.P (lkA C s.τ) s.σ.get (.makeMap t q)=none from rfl,show QN C.P (lkA C s.τ) s.σ.get (s.lv,s.nx) (.makeMap t q)=none from rfl];cases Ws C.P (lkA C s.τ) s.σ.get (s.lv,s.nx) (.makeMap t q)<;>rfl
def PanO (C:Ctx) (b:Bool) (q:Option V) (K:QH->ASt->Prop) (s:ASt):Prop:=if b=true then False else panS q s (fun v s'=>K (.panic v) s')
@[simp] theorem OpO_panic {x:Operand}:OpO C n dst (.panic x) ops r st K s=PanO C (quiet st) (lkA C s.τ x) K s:=rfl
@[simp] theorem PanO_iface {t:TypeId} {v:V}:PanO C false (some (.iface t v)) K s=K (.panic (.iface t v)) s:=by
 unfold PanO panS;rw[if_neg (by simp)];apply propext;exact⟨fun ⟨_,_,h,k⟩=>by cases h;exact k,fun h=>⟨t,v,rfl,h⟩⟩
theorem XI {b:Builtin} {args:Array Operand} {ats:Array TypeId}:OpO C n dst (.call { callee:=.builtin b,args:=args,argTypes:=ats }) ops r st K s=ResO C n (opA C.P (lkA C s.τ) s.σ.get (s.lv,s.nx) (.call { callee:=.builtin b,args:=args,argTypes:=ats })) dst ops r st K s:=rfl
def lenR (P:Program) (t:TypeId) (get:Id->Option Blk):Option V->Option (V × Upd)
 | some (.slice es)=>if Qo P t = .slice then some (.int .i64 es.length,.none) else none
 | some .snil=>if Qo P t = .slice then some (.int .i64 0,.none) else none
 | some (.str s)=>if Qo P t = .str then some (.int .i64 s.size,.none) else none
 | some (.vec id ver)=>if Qo P t = .slice then (match get id with|some (.vec _ _ es ver' _)=>if ver=ver' then some (.int .i64 es.length,.none) else none|_=>none) else none
 | some (.vsub id ver z lo len)=>if Qo P t = .slice then (match winV get (.vsub id ver z lo len) with|some _=>some (.int .i64 len,.none)|none=>none) else none
 | some (.mapv ks _)=>if Qo P t = .map then some (.int .i64 ks.length,.none) else none
 | some .mnil=>if Qo P t = .map then some (.int .i64 0,.none) else none
 | some (.map id)=>if Qo P t = .map then (match get id with|some (.map ks _ _)=>some (.int .i64 ks.length,.none)|_=>none) else none
 | _=>none
theorem opA_len {P:Program} {lk:Operand->Option V} {get:Id->Option Blk} {j:Id} {t:TypeId} {x:Operand}:opA P lk get j (.call { callee:=.builtin .len,args:=#[x],argTypes:=#[t] })=lenR P t get (lk x):=by
 unfold opA;simp only[QY,allV,QN,Xc,WO,Ws];cases h:lk x with
 | none=>by_cases hs:Qo P t = .map<;>simp[hs,lenR]
 | some v=>
   cases v<;>simp only[Option.bind_some,Uo,lenR]
   case slice es=>by_cases hs:Qo P t = .slice<;>simp[hs]
   case snil=>by_cases hs:Qo P t = .slice<;>simp[hs]
   case str q=>by_cases hs:Qo P t = .str<;>simp[hs]
   case vec id ver=>
    by_cases hs:Qo P t = .slice<;>simp[hs];cases get id with
    | none=>rfl
    | some b=>cases b<;>rfl
   case vsub id ver z lo len=>
    by_cases hs:Qo P t = .slice<;>simp[hs];cases winV get (.vsub id ver z lo len)<;>rfl
   case map id=>
    by_cases hs:Qo P t = .map<;>simp[hs];cases get id with
    | none=>rfl
    | some b=>cases b<;>rfl
   case mapv=>by_cases hs:Qo P t = .map<;>simp[hs]
   case mnil=>by_cases hs:Qo P t = .map<;>simp[hs]
   all_goals by_cases hs:Qo P t = .map<;>simp[hs]
@[simp] theorem OpO_len {x:Operand} {t:TypeId}:OpO C n dst (.call { callee:=.builtin .len,args:=#[x],argTypes:=#[t] }) ops r st K s=ResO C n (lenR C.P t s.σ.get (lkA C s.τ x)) dst ops r st K s:=by
 rw[XI,opA_len]
def appS (P:Program) (get:Id->Option Blk) (t tx:TypeId) (id:Id) (ver z lo len:Nat) (x:V):Option (V × Upd):=
 (winV get (.vsub id ver z lo len)).bind fun _=>(Wt P t).bind fun el=>(Qx P el).bind fun n=>(srcV P get n tx x).bind fun xs=>(get id).bind fun
   | .vec t' s es _ wr=>if s=n/\z=n/\wr=true/\lo+len+xs.length<=es.length then
      some (.vsub id ver z lo (len+xs.length),if xs.length=0 then .none else .put id (.vec t' s (Ye es (lo+len) xs) ver true)) else none
   | _=>none
def appR (P:Program) (get:Id->Option Blk) (j:Id) (t tx:TypeId):Option V->Option V->Option (V × Upd)
 | some (.vsub id ver z lo len),some x=>appS P get t tx id ver z lo len x
 | some (.vec id ver),some x=>appV P get j t tx (.vec id ver) x
 | some .snil,some x=>appV P get j t tx .snil x
 | _,_=>none
theorem appV_no {P:Program} {get:Id->Option Blk} {j:Id} {t tx:TypeId} {s x:V} (h1:∀ id ver,s≠.vec id ver) (h2:s≠.snil):appV P get j t tx s x=none:=by
 unfold appV;cases Wt P t with
 | none=>rfl
 | some el=>
   simp only[Option.bind_some];cases Qx P el with
   | none=>rfl
   | some n=>
     simp only[Option.bind_some];cases XC P el with
     | none=>rfl
     | some bb=>
       simp only[Option.bind_some];cases QQ P el with
       | none=>rfl
       | some z=>
         simp only[Option.bind_some];cases srcZ P get n tx z x with
         | none=>rfl
         | some xs=>
           simp only[Option.bind_some];by_cases hc:z.cells.length=n/\0<n
           ·simp only[hc,and_self,if_true]
           ·rw[if_neg hc]
@[simp] theorem OpO_append {x y:Operand} {t u:TypeId}:OpO C n dst (.call { callee:=.builtin .append,args:=#[x,y],argTypes:=#[t,u] }) ops r st K s =
 ResO C n (appR C.P s.σ.get (s.lv,s.nx) t u (lkA C s.τ x) (lkA C s.τ y)) dst ops r st K s:=by
 rw[XI];congr 1;unfold opA;have hs:QN C.P (lkA C s.τ) s.σ.get (s.lv,s.nx) (.call { callee:=.builtin .append,args:=#[x,y],argTypes:=#[t,u] })=none:=rfl;have hp:QY C.P (lkA C s.τ) (.call { callee:=.builtin .append,args:=#[x,y],argTypes:=#[t,u] })=none:=by
  simp only[QY,allV];cases lkA C s.τ x with
  | none=>rfl
  | some a=>cases lkA C s.τ y<;>rfl
 rw[hs,hp];simp only[Xc,WO];cases lkA C s.τ x with
 | none=>rfl
 | some a=>
   cases lkA C s.τ y with
   | none=>cases a<;>rfl
   | some b=>
     simp only[Option.bind_some];by_cases h1:∃ id ver,a = .vec id ver
     ·obtain⟨id,ver,rfl⟩:=h1;rfl
     ·by_cases h2:a = .snil
      ·subst h2;rfl
      ·rw[appV_no (fun id ver e=>h1 ⟨id,ver,e⟩) h2];cases a<;>first|rfl|exact absurd rfl h2|exact absurd ⟨_,_,rfl⟩ h1|skip
       simp only[appR,appS];generalize (winV s.σ.get _).bind _=q;cases q<;>rfl
def cutR (P:Program) (get:Id->Option Blk) (t:TypeId) (lo hi mx:Option (Option V)):Option V->Option (V × Upd)
 | some (.vec id ver)=>cutW P get t (.vec id ver) lo hi mx
 | some (.vsub id ver z a b)=>cutW P get t (.vsub id ver z a b) lo hi mx
 | v=>Wr (cutV P t v lo hi mx)
where
 cutW (P:Program) (get:Id->Option Blk) (t:TypeId) (v:V) (lo hi mx:Option (Option V)):Option (V × Upd):=
  (winV get v).bind fun (id,b,len)=>(Wt P t).bind fun el=>(Qx P el).bind fun n=>(get id).bind fun
  | .vec _ s es ver _=>(bndV 0 lo).bind fun l=>(bndV len hi).bind fun h=>
     if s=n then match mx with
      | none=>if l<=h/\b+h<=es.length then some (.vsub id ver s (b+l) (h - l),.none) else none
      | some m=>(bndV 0 (some m)).bind fun m=>if hi.isSome/\l<=h/\h<=m/\b+m<=es.length then some (.any,.none) else none
     else none
  | _=>none
theorem opA_slice {P:Program} {lk:Operand->Option V} {get:Id->Option Blk} {j:Id} {t:TypeId} {x:Operand} {lo hi mx:Option Operand}:opA P lk get j (.slice t x lo hi mx)=cutR P get t (lo.map lk) (hi.map lk) (mx.map lk) (lk x):=by
 unfold opA;have hp:QY P lk (.slice t x lo hi mx)=cutV P t (lk x) (lo.map lk) (hi.map lk) (mx.map lk):=rfl;have hs:QN P lk get j (.slice t x lo hi mx)=none:=rfl;have hv:WO P lk get j (.slice t x lo hi mx)=none:=rfl;have hm0:Ws P lk get j (.slice t x lo hi mx)=none:=rfl;have hsub:Xc P lk get (.slice t x lo hi mx)=(lk x).bind fun v=>cutR.cutW P get t v (lo.map lk) (hi.map lk) (mx.map lk):=by
  simp only[Xc,cutR.cutW];cases lk x with
  | none=>rfl
  | some v=>
    simp only[Option.bind_some];congr 1;funext r;obtain⟨id,b,len⟩:=r;simp only;congr 1;funext el;congr 1;funext n;congr 1;funext bk;cases bk with
    | cells=>rfl
    | map=>rfl
    | vec t' s es ver wr=>
      simp only;congr 1;funext l;congr 1;funext hh;cases mx<;>cases hi<;>rfl
 rw[hp,hs,hv,hsub,hm0];cases h:lk x with
 | none=>
   simp only[Option.bind_none,cutR];cases cutV P t none (lo.map lk) (hi.map lk) (mx.map lk)<;>rfl
 | some v=>
   simp only[Option.bind_some];have other:winV get v=none->(match cutV P t (some v) (lo.map lk) (hi.map lk) (mx.map lk) with|some v=>some (v,Upd.none)|none=>match (none:Option (V × Upd)) with|some r=>some r|none=>match cutR.cutW P get t v (lo.map lk) (hi.map lk) (mx.map lk) with|some r=>some r|none=>none)=Wr (cutV P t (some v) (lo.map lk) (hi.map lk) (mx.map lk)):=fun hw=>by
    have:cutR.cutW P get t v (lo.map lk) (hi.map lk) (mx.map lk)=none:=by unfold cutR.cutW;rw[hw];rfl
    rw[this];cases cutV P t (some v) (lo.map lk) (hi.map lk) (mx.map lk)<;>rfl
   cases v
   case vec id ver=>
    simp only[cutR];have:cutV P t (some (.vec id ver)) (lo.map lk) (hi.map lk) (mx.map lk)=none:=rfl;rw[this];generalize cutR.cutW P get t _ _ _ _=q;cases q<;>rfl
   case vsub id ver z a b=>
    simp only[cutR];have:cutV P t (some (.vsub id ver z a b)) (lo.map lk) (hi.map lk) (mx.map lk)=none:=rfl;rw[this];generalize cutR.cutW P get t _ _ _ _=q;cases q<;>rfl
   all_goals exact other rfl
@[simp] theorem OpO_slice {ty:TypeId} {x:Operand} {lo hi mx:Option Operand}:OpO C n dst (.slice ty x lo hi mx) ops r st K s=ResO C n (cutR C.P s.σ.get ty (lo.map (lkA C s.τ)) (hi.map (lkA C s.τ)) (mx.map (lkA C s.τ)) (lkA C s.τ x)) dst ops r st K s:=by
 rw[QP (by simp),opA_slice]
def Wgq (P:Program) (get:Id->Option Blk) (t:TypeId):Option V->Option (V × Upd)
 | some v=>(winV get v).bind fun (id,b,len)=>(Wt P t).bind fun el=>(Qx P el).bind fun n=>(QQ P el).bind fun z=>(get id).bind fun
    | .vec t' s es ver wr=>if s=n/\z.cells.length=n/\wr=true then some (.tup [],if len=0 then .none else .put id (.vec t' s (Ye es b (List.replicate len z)) ver true)) else none
    | _=>none
 | none=>none
@[simp] theorem OpO_clear {x:Operand} {t:TypeId}:OpO C n dst (.call { callee:=.builtin .clear,args:=#[x],argTypes:=#[t] }) ops r st K s=ResO C n (Wgq C.P s.σ.get t (lkA C s.τ x)) dst ops r st K s:=by
 rw[XI];congr 1;unfold opA;simp only[QY,allV,QN,Xc,WO];cases lkA C s.τ x with
 | none=>rfl
 | some v=>
   simp only[Option.bind_some,Uo,Wgq];generalize (winV s.σ.get v).bind _=q;cases q<;>rfl
def QDw (P:Program) (get:Id->Option Blk) (t ts:TypeId):Option V->Option V->Option (V × Upd)
 | some v,some x=>if Qo P ts = .slice then (winV get v).bind fun (id,b,len)=>(Wt P t).bind fun el=>(Qx P el).bind fun n=>(srcV P get n ts x).bind fun xs=>(get id).bind fun
    | .vec t' s es ver wr=>if s=n/\wr=true then
       some (.int .i64 (min xs.length len:Nat),if (xs.take len).length=0 then .none else .put id (.vec t' s (Ye es b (xs.take len)) ver true)) else none
    | _=>none
    else none
 | _,_=>none
@[simp] theorem OpO_copy {x y:Operand} {t u:TypeId}:OpO C n dst (.call { callee:=.builtin .copy,args:=#[x,y],argTypes:=#[t,u] }) ops r st K s=ResO C n (QDw C.P s.σ.get t u (lkA C s.τ x) (lkA C s.τ y)) dst ops r st K s:=by
 rw[XI];congr 1;unfold opA;simp only[QY,allV,QN,Xc,WO,show Ws C.P (lkA C s.τ) s.σ.get (s.lv,s.nx) (.call { callee:=.builtin .copy,args:=#[x,y],argTypes:=#[t,u] })=none from rfl];cases lkA C s.τ x with
 | none=>by_cases hs:Qo C.P u = .slice<;>simp[hs,QDw]
 | some v=>
   cases lkA C s.τ y with
   | none=>by_cases hs:Qo C.P u = .slice<;>simp[hs,QDw]
   | some x=>
     simp only[Option.bind_some,Uo,QDw];by_cases hs:Qo C.P u = .slice
     ·simp only[hs,if_true];generalize (winV s.σ.get v).bind _=q;cases q<;>rfl
     ·simp only[hs,if_false]
@[simp] theorem OpO_max {x y:Operand} {t u:TypeId}:OpO C n dst (.call { callee:=.builtin .max,args:=#[x,y],argTypes:=#[t,u] }) ops r st K s =
 ResO C n (Wr ((lkA C s.τ x).bind fun a=>(lkA C s.τ y).bind fun b=>Uo C.P .max [t,u] [a,b])) dst ops r st K s:=by
 rw[XI,WL rfl rfl rfl];congr 2;simp only[QY,allV];cases lkA C s.τ x with
 | none=>rfl
 | some a=>cases lkA C s.τ y<;>rfl
def idxR (P:Program) (t:TypeId) (get:Id->Option Blk):Option V->Option V->Option (V × Upd)
 | some (.vec id ver),some (.int _ k)=>(Wt P t).bind fun el=>(Qx P el).bind fun n=>match get id with
    | some (.vec _ s es ver' _)=>if ver=ver'/\s=n/\0<=k/\k.toNat<es.length then some (.eptr id ver s k.toNat 0,.none) else none
    | _=>none
 | some (.vsub id ver z lo len),some (.int _ k)=>(winV get (.vsub id ver z lo len)).bind fun _=>(Wt P t).bind fun el=>(Qx P el).bind fun n=>
    if z=n/\0<=k/\k.toNat<len then some (.eptr id ver z (lo+k.toNat) 0,.none) else none
 | some a,some b=>Wr (JW P t a b)
 | _,_=>none
theorem uc {P:Program} {lk:Operand->Option V} {get:Id->Option Blk} {j:Id} {t:TypeId} {x i:Operand}:opA P lk get j (.indexAddr t x i)=idxR P t get (lk x) (lk i):=by
 unfold opA;have hs:QN P lk get j (.indexAddr t x i)=none:=rfl;have hp:QY P lk (.indexAddr t x i)=(lk x).bind fun a=>(lk i).bind fun b=>JW P t a b:=rfl;have hm0:Ws P lk get j (.indexAddr t x i)=none:=rfl;rw[hs,hp,hm0];simp only[Xc,WO];cases lk x with
 | none=>cases lk i<;>rfl
 | some a=>
   cases lk i with
   | none=>cases a<;>rfl
   | some b=>
     simp only[Option.bind_some];cases b
     case int k m=>
      cases a
      case vec id ver=>
       simp only[JW,idxR];congr 1;funext el;congr 1;funext q;cases get id with
       | none=>rfl
       | some b=>cases b<;>rfl
      case vsub id ver z lo len=>
       simp only[JW,idxR];generalize (winV get _).bind _=q;cases q<;>rfl
      all_goals
       simp only[idxR,Wr];generalize JW P t _ _=q;cases q<;>rfl
     all_goals
      simp only[Wr];cases a<;>simp only[idxR,Wr]<;>(generalize JW P t _ _=q;cases q<;>rfl)
@[simp] theorem OpO_indexAddr {t:TypeId} {x i:Operand}:OpO C n dst (.indexAddr t x i) ops r st K s=ResO C n (idxR C.P t s.σ.get (lkA C s.τ x) (lkA C s.τ i)) dst ops r st K s:=by
 rw[QP (by simp),uc]
theorem yN {P:Program} {lk:Operand->Option V} {get:Id->Option Blk} {j:Id} {op:Op} (h1:QY P lk op=none) (h2:QN P lk get j op=none) (h3:Xc P lk get op=none) (h4:Ws P lk get j op=none:=by rfl):opA P lk get j op=WO P lk get j op:=by
 unfold opA;simp only[h1,h2,h3,h4]
@[simp] theorem OpO_makeSlice {t:TypeId} {x y:Operand}:OpO C n dst (.makeSlice t x y) ops r st K s=ResO C n (WO C.P (lkA C s.τ) s.σ.get (s.lv,s.nx) (.makeSlice t x y)) dst ops r st K s:=by
 rw[QP (by simp),yN rfl rfl rfl]
@[simp] theorem OpO_build {t:TypeId} {ps:List (Nat × Operand)}:OpO C n dst (.build t ps.toArray) ops r st K s=ResO C n (Wr ((YH (lkA C s.τ) ps).bind fun ps=>vE C.P t ps)) dst ops r st K s:=by
 rw[QP (by simp),yN rfl rfl rfl];congr 1;show (YH (lkA C s.τ) ps).bind _=_;cases YH (lkA C s.τ) ps<;>rfl
def LitO (C:Ctx) (n:Nat) (b:Bool) (t len:Nat) (ps:List (Nat × Operand)) (dst:Option Tmp) (ops:Array Oper) (r:List Oper) (st:List Fr) (K:QH->ASt->Prop) (s:ASt):Prop:=
 if b=true then ResO C n (litR C.P (lkA C s.τ) (s.lv,s.nx) t len ps) dst ops r st K s
 else ResO C n (Wr ((YH (lkA C s.τ) ps).bind fun ps=>(litV C.P t len ps).map fun es=>if len=0 then .snil else .slice es)) dst ops r st K s
@[simp] theorem OpO_buildSlice {t len:Nat} {ps:List (Nat × Operand)}:OpO C n dst (.buildSlice t len ps.toArray) ops r st K s=LitO C n (C.own.contains t && !quiet st) t len ps dst ops r st K s:=by
 unfold OpO LitO;by_cases hc:(C.own.contains t && !quiet st)=true
 ·rw[if_pos hc];unfold ZL ResO;simp only[if_pos hc];rfl
 ·rw[if_neg hc];unfold ZL;simp only[if_neg hc];have:opA C.P (lkA C s.τ) s.σ.get (s.lv,s.nx) (.buildSlice t len ps.toArray)=Wr ((YH (lkA C s.τ) ps).bind fun ps=>(litV C.P t len ps).map fun es=>if len=0 then .snil else .slice es):=by
   rw[yN rfl rfl rfl];show (YH (lkA C s.τ) ps).bind _=_;cases YH (lkA C s.τ) ps with
   | none=>rfl
   | some p=>simp only[Option.bind_some,Wr,Option.map_map];rfl
  show JC C _ s _=_;unfold JC ResO;rw[this]
@[simp] theorem LitO_true {t len:Nat} {ps:List (Nat × Operand)}:LitO C n true t len ps dst ops r st K s=ResO C n (litR C.P (lkA C s.τ) (s.lv,s.nx) t len ps) dst ops r st K s:=rfl
@[simp] theorem LitO_false {t len:Nat} {ps:List (Nat × Operand)}:LitO C n false t len ps dst ops r st K s=ResO C n (Wr ((YH (lkA C s.τ) ps).bind fun ps=>(litV C.P t len ps).map fun es=>if len=0 then .snil else .slice es)) dst ops r st K s:=rfl
@[simp] theorem quiet_blk {i:Nat}:quiet (.blk i::st)=false:=rfl
@[simp] theorem quiet_draw:quiet (.draw::st)=true:=rfl
def Qe (C:Ctx) (n:Nat) (f:FuncId) (args:List V) (dst:Option Tmp) (ops:Array Oper) (r:List Oper) (st:List Fr) (K:QH->ASt->Prop) (s:ASt):Prop:=
 vV C (quiet st) f args s (fun v σ'=>WW s.n dst=true/\go C n (.ops ops r) st K (({ s with σ:=σ' }:ASt).putD dst v)) (fun v σ'=>K (.panic v) { s with σ:=σ' })
def CallO (C:Ctx) (n:Nat) (fv:Option V) (vs:Option (List V)) (dst:Option Tmp) (ops:Array Oper) (r:List Oper) (st:List Fr) (K:QH->ASt->Prop) (s:ASt):Prop:=
 WW s.n dst=true/\callS C (quiet st) fv vs s (fun v σ'=>go C n (.ops ops r) st K (({ s with σ:=σ' }:ASt).putD dst v)) (fun v σ'=>K (.panic v) { s with σ:=σ' })
@[simp] theorem OpO_call {f:Operand} {l:List Operand} {ats:Array TypeId}:OpO C n dst (.call { callee:=.value f,args:=l.toArray,argTypes:=ats }) ops r st K s=CallO C n (lkA C s.τ f) (allV (lkA C s.τ) l) dst ops r st K s:=rfl
theorem yp {q:Bool} {f:FuncId} {args:List V} {s:ASt} {K X:V->Qa->Prop} {p:Prop} (hp:p):vV C q f args s (fun v σ'=>p/\K v σ') X=vV C q f args s K X:=by
 have:(fun v σ'=>p/\K v σ')=K:=by funext v σ';simp[hp]
 rw[this]
@[simp] theorem CallO_some {t:Nat} {f:FuncId} {first cap args:List V}:CallO C n (some (.func (.func f) first cap)) (some args) (some t) ops r st K ⟨τ,σ,N,lv,nx⟩=(t<N/\Qe C n f (first++args++cap) (some t) ops r st K ⟨τ,σ,N,lv,nx⟩):=by
 unfold CallO Qe;rw[Whq];apply propext;constructor
 ·rintro⟨h1,h2⟩;exact⟨by simpa[WW] using h1,by rw[yp h1];exact h2⟩
 ·rintro⟨h1,h2⟩;have h1':WW (⟨τ,σ,N,lv,nx⟩:ASt).n (some t)=true:=by simpa[WW] using h1
  rw[yp h1'] at h2;exact⟨h1',h2⟩
theorem only_all (σ:Qa):σ.only σ.keys=σ:=by
 unfold Qa.only;rw[List.filter_eq_self];intro x hx;exact List.contains_iff_mem.2 (List.mem_map.2 ⟨x,hx,rfl⟩)
theorem Qn {σ:Qa}:∀ vs:List V,FrzL σ vs vs
 | []=>.nil
 | v::vs=>.cons (.refl v) (Qn vs)
theorem Qe.pure {f:FuncId} {args:List V} {t:Nat} (h:Ql C f args v) (ht:t<N) (hk:go C n (.ops ops r) st K ⟨(t,v)::τ,σ,N,lv,nx⟩):Qe C n f args (some t) ops r st K ⟨τ,σ,N,lv,nx⟩:=by
 unfold Qe;cases quiet st with
 | true=>exact⟨args,v,[],h,Qn _,.inl rfl,by simpa[WW] using ht,hk⟩
 | false=>exact qJ h ⟨by simpa[WW] using ht,hk⟩
theorem Qe.borrow {f:FuncId} {args args':List V} {t:Nat} (h:Ql C f args' v) (hz:FrzL σ args args') (hf:v.flat=true) (ht:t<N) (hk:go C n (.ops ops r) st K ⟨(t,v)::τ,σ,N,lv,nx⟩):Qe C n f args (some t) ops r st K ⟨τ,σ,N,lv,nx⟩:=by
 unfold Qe;cases quiet st with
 | true=>exact⟨args',v,σ.keys,h,by rw[only_all];exact hz,.inr hf,by simpa[WW] using ht,hk⟩
 | false=>exact wG h hz hf ⟨by simpa[WW] using ht,hk⟩
theorem Qe.sealed {f:FuncId} {args args':List V} {t:Nat} (ids:List Id) (h:Ql C f args' v) (hz:FixL (Qa.only σ ids) args args') (ht:t<N) (hq:quiet st=false) (hk:go C n (.ops ops r) st K ⟨(t,v)::τ,Qa.sealed σ ids,N,lv,nx⟩):Qe C n f args (some t) ops r st K ⟨τ,σ,N,lv,nx⟩:=by
 unfold Qe;rw[hq];exact Wjz ids h hz ⟨by simpa[WW] using ht,hk⟩
theorem Qe.gen {f:FuncId} {args:List V} {t:Nat} {σin:Qa} {R:Nat->AOut->Qa->Prop} (h:AFn C f args σin R) (hs:∀ x,x∈σin->x∈σ) (hn:σin.keys.Nodup) (ht:t<N) (hq:quiet st=false)
 (hk:∀ L v σ',lv<L->(∀ id,id∈σ.keys->id.1<L)->R L (.ret v) σ'->go C n (.ops ops r) st K ⟨(t,v)::τ,σ' ++ σ.less σin,N,lv,nx⟩)
 (hp:∀ L v σ',lv<L->(∀ id,id∈σ.keys->id.1<L)->R L (.pan v) σ'->K (.panic v) ⟨τ,σ' ++ σ.less σin,N,lv,nx⟩):Qe C n f args (some t) ops r st K ⟨τ,σ,N,lv,nx⟩:=by
 unfold Qe;rw[hq];refine vL (s:=⟨τ,σ,N,lv,nx⟩) h hs hn fun L o σ' h1 h2 h3=>?_;cases o with
 | ret v=>exact⟨by simpa[WW] using ht,hk L v σ' h1 h2 h3⟩
 | pan v=>exact hp L v σ' h1 h2 h3
end opRules
end rules
end
section
variable {C:Ctx}
structure ZV (C:Ctx) (rs:List ResultVar) (L:Nat) (R:Nat->AOut->Qa->Prop) (s:ASt):Prop where
 h:∃ vs v' σd σk,Qf C.P s rs=some vs/\(∀ x,x∈σk->x∈s.σ)/\(∀ x,x∈σd->x∈s.σ)/\(Qa.keys σk).Nodup/\(∀ id,id∈Qa.keys σk->id∉Qa.keys σd)/\
  Frz σd (match vs with|[v]=>v|vs=>.tup vs) v'/\R L (.ret v') σk
theorem afn_enter {f:FuncId} {fn:Func} {c:Code} {n:Nat} {rs:List ResultVar} {args:List V} {σ:Qa} {R:Nat->AOut->Qa->Prop} (hf:C.P.funcs[f]? = some fn) (hb:fn.body=some c) (hnt:fn.ntmps=n) (hrs:fn.results.toList=rs)
 (hname:(fn.name == "runtime.NumGoroutine")=false) (hn:args.length<=n) (hcode:codeOk C.ex c=true)
 (h:∀ L K,(∀ id,id∈σ.keys->id.1<L)->(∀ s,ZV C rs L R s->K .ret s)->(∀ s,ZV C rs L R s->K .normal s)->
   (∀ s v v' σd σk,(∀ x,x∈σk->x∈s.σ)->(∀ x,x∈σd->x∈s.σ)->(Qa.keys σk).Nodup->(∀ id,id∈Qa.keys σk->id∉Qa.keys σd)->Frz σd v v'->R L (.pan v') σk->K (.panic v) s)->
   go C 1000000 (.code c) [] K ⟨Uc 0 args,σ,n,L,0⟩):AFn C f args σ R:=by
 subst hnt;subst hrs;refine afn_of hf hb hname hn fun L hL=>go_sound 1000000 (.code c) [] _ _ (fun c' e=>by cases e;exact hcode) rfl (h L (Ends C fn L R) hL ?_ ?_ ?_)
 ·rintro s ⟨vs,v',σd,σk,h1,h2,h3,h4,h5,h6,h7⟩;exact⟨_,v',σd,σk,by unfold resV;rw[h1];rfl,h2,h3,h4,h5,h6,h7⟩
 ·rintro s ⟨vs,v',σd,σk,h1,h2,h3,h4,h5,h6,h7⟩;exact⟨_,v',σd,σk,by unfold resV;rw[h1];rfl,h2,h3,h4,h5,h6,h7⟩
 ·intro s v v' σd σk h2 h3 h4 h5 h6 h7;exact⟨v',σd,σk,h2,h3,h4,h5,h6,h7⟩
theorem ZV.pure {rs:List ResultVar} {L:Nat} {s:ASt} {v v':V} (h:Qf C.P s rs=some [v]) (hz:Frz s.σ v v'):ZV C rs L (fun _ o σ'=>o = .ret v'/\σ' = []) s:=
 ⟨_,v',s.σ,[],h,by simp,fun _ h=>h,by simp[Qa.keys],by simp[Qa.keys],hz,rfl,rfl⟩
theorem ZV.pures {rs:List ResultVar} {L:Nat} {s:ASt} {vs:List V} {v':V} (h:Qf C.P s rs=some vs) (hl:vs.length≠1) (hz:Frz s.σ (.tup vs) v'):ZV C rs L (fun _ o σ'=>o = .ret v'/\σ' = []) s:=by
 refine⟨_,v',s.σ,[],h,by simp,fun _ h=>h,by simp[Qa.keys],by simp[Qa.keys],?_,rfl,rfl⟩
 match vs,hl with
 | [],_=>exact hz
 | _::_::_,_=>exact hz
theorem Qb {s:ASt} {τ':List (Nat × V)} {σ':Qa} (hτ:∀ p,p∈τ'->s.τ.lookup p.1=some p.2) (hσ:∀ x,x∈σ'->x∈s.σ) (hn:s.σ.keys.Nodup->σ'.keys.Nodup):Turn C s { s with τ:=τ',σ:=σ' }:=fun E a hr=>by
 have hl:∀ (l:List (Nat × V)) t v,l.lookup t=some v->(t,v)∈l:=fun l t v h=>by
  induction l with
  | nil=>cases h
  | cons x l ih=>
    obtain⟨k,u⟩:=x;simp only[List.lookup_cons] at h;split at h
    ·rename_i e;have e:=eq_of_beq e;cases h;subst e;exact List.mem_cons_self
    ·exact List.mem_cons_of_mem _ (ih h)
 have hk:∀ id,id∈σ'.keys->id∈s.σ.keys:=fun id hi=>by
  obtain⟨x,hx,rfl⟩:=List.mem_map.1 hi;exact List.mem_map.2 ⟨x,hσ x hx,rfl⟩
 refine⟨E,rfl,⟨fun t v hv=>hr.tmp t v (hτ _ (hl _ _ _ hv)),hr.size,hr.store.part hσ (hn hr.store.nodup),hr.own,hr.glob⟩,(Grow.refl E s.σ).drop hk,rfl,fun _ _ h=>h⟩
theorem turn_nx {s:ASt} {m:Nat} (h:s.nx<=m):Turn C s { s with nx:=m }:=fun E a hr=>
 ⟨E,rfl,⟨hr.tmp,hr.size,hr.store,fun k hk=>hr.own k (Nat.le_trans h hk),hr.glob⟩,Grow.refl E s.σ,rfl,fun _ _ h=>h⟩
theorem Qi {s:ASt} {τ':List (Nat × V)} {σ':Qa} {m:Nat} (hm:s.nx<=m) (hτ:∀ p,p∈τ'->s.τ.lookup p.1=some p.2) (hσ:∀ x,x∈σ'->x∈s.σ) (hn:s.σ.keys.Nodup->σ'.keys.Nodup):Turn C s { s with τ:=τ',σ:=σ',nx:=m }:=
 (Qb hτ hσ hn).trans (turn_nx hm)
theorem Yh {c:Operand} {x y:Code} {st:List Fr} {K:QH->ASt->Prop} {s:ASt} {α:Type} (J:α->Prop) (I:α->List (Nat × V)) (S:α->Qa) (m:Nat)
 (hx:∀ K',(∀ s' a,J a->Turn C s' { s with τ:=I a,σ:=S a,nx:=m }->K' .normal s')->(∀ id s',go C 1000000 (.exit id) st K s'->K' (.exit id) s')->
   (∀ s',K .ret s'->K' .ret s')->(∀ l s',K (.goto l) s'->K' (.goto l) s')->(∀ v s',K (.panic v) s'->K' (.panic v) s')->Qv C 1000000 (lkA C s.τ c) x y [] K' s)
 (hy:∀ a,J a->go C 1000000 .done st K { s with τ:=I a,σ:=S a,nx:=m }):Wait C (.cond c x y) st K s:=by
 intro hcode hst;simp only[codeOk,Bool.and_eq_true] at hcode;obtain⟨b,e,h1,h2⟩:=hx (fun e s'=>match e with|.normal=>∃ a,J a/\Turn C s' { s with τ:=I a,σ:=S a,nx:=m }|e=>unst C st K e s')
  (fun s' a ja ht=>⟨a,ja,ht⟩) (fun id s' h=>go_sound _ _ _ _ _ (fun c e=>by cases e) hst h) (fun s' h=>by show unst C st K .ret _;rw[Vf];exact h)
  (fun l s' h=>by show unst C st K (.goto l) _;rw[wM];exact h) (fun v s' h=>by show unst C st K (.panic v) _;rw[YQ];exact h)
 refine aw_post (Qez e (fun hb=>go_sound 1000000 (.code x) [] _ s (fun c e=>by cases e;exact hcode.1) rfl (h1 hb)) (fun hb=>go_sound 1000000 (.code y) [] _ s (fun c e=>by cases e;exact hcode.2) rfl (h2 hb))) fun e s' h=>?_;cases e with
 | normal=>
   obtain⟨a,ja,ht⟩:=h;exact⟨_,ht,go_sound 1000000 .done st K _ (fun c e=>by cases e) hst (hy a ja)⟩
 | _=>exact⟨s',Turn.refl C s',h⟩
theorem QEw {c:Operand} {x y:Code} {st:List Fr} {K:QH->ASt->Prop} {s:ASt} (h:Qv C 1000000 (lkA C s.τ c) x y st K s):Wait C (.cond c x y) st K s:=by
 intro hcode hst;simp only[codeOk,Bool.and_eq_true] at hcode;obtain⟨b,e,h1,h2⟩:=h;exact Qez e (fun hb=>go_sound 1000000 (.code x) st K s (fun c e=>by cases e;exact hcode.1) hst (h1 hb)) (fun hb=>go_sound 1000000 (.code y) st K s (fun c e=>by cases e;exact hcode.2) hst (h2 hb))
theorem QB {c:Code} {st:List Fr} {K:QH->ASt->Prop} {s:ASt} {α:Type} (J:α->Prop) (I:α->List (Nat × V)) (S:α->Qa) (μ:α->Nat) (x₀:α) (j₀:J x₀) (h₀:Turn C s { s with τ:=I x₀,σ:=S x₀ })
 (round:∀ x L K',J x->s.lv<L->(∀ id,id∈(S x).keys->id.1≠L)->
   (∀ s' x',J x'->μ x' < μ x->Turn C { s' with lv:=s.lv,nx:=s.nx } { s with τ:=I x',σ:=S x' }->K' .normal s')->
   (∀ id s',go C 1000000 (.exit id) st K { s' with lv:=s.lv,nx:=s.nx }->K' (.exit id) s')->
   (∀ s',K .ret { s' with lv:=s.lv,nx:=s.nx }->K' .ret s')->
   (∀ l s',K (.goto l) { s' with lv:=s.lv,nx:=s.nx }->K' (.goto l) s')->
   (∀ v s',K (.panic v) { s' with lv:=s.lv,nx:=s.nx }->K' (.panic v) s')->
   go C 1000000 (.code c) [] K' { s with τ:=I x,σ:=S x,lv:=L,nx:=0 }):
 Wait C (.loop c) st K s:=by
 intro hcode hst;refine aw_loop (α:={ x // J x }) (fun x=>I x.1) (fun x=>S x.1) (fun x=>μ x.1) ⟨x₀,j₀⟩ h₀ fun x L hL hk=>?_;refine go_sound 1000000 (.code c) [] _ _ (fun c' e=>by cases e;exact hcode) rfl (round x.1 L _ x.2 hL hk ?_ ?_ ?_ ?_ ?_)
 ·intro s' x' jx hlt ht;exact⟨⟨x',jx⟩,hlt,ht⟩
 ·intro id s' h;exact go_sound _ _ _ _ _ (fun c e=>by cases e) hst h
 ·intro s' h;show unst C st K .ret _;rw[Vf];exact h
 ·intro l s' h;show unst C st K (.goto l) _;rw[wM];exact h
 ·intro v s' h;show unst C st K (.panic v) _;rw[YQ];exact h
end
end Go.Awp
