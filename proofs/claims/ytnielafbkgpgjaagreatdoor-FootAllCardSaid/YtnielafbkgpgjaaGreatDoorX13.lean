/- AWP, text 26: scopes through which no jump goes. -/
import Derived.Test.YtnielafbkgpgjaaGreatDoorX12
import Derived.Scope
import Derived.Test.YtnielafbkgpgjaaGreatDoorProg
set_option linter.all false
set_option maxRecDepth 100000
set_option maxHeartbeats 8000000
namespace Go.Awp
open Go
section
variable {C:Ctx} {K:QH->ASt->Prop}
def NoGoto (K:QH->ASt->Prop):QH->ASt->Prop
 | .goto _,_=>False
 | e,s=>K e s
theorem aw_scope {c:Code} {s:ASt} (h:AW C c (NoGoto K) s):AW C (.scope c) K s:=fun E a hr=>by
 refine wp_scope_straight (wp_mono (h E a hr) ?_);rintro e a1 w1 ⟨E1,ae,s1,p⟩;have hx:=p.exit;have hk:=p.k;cases hx with
 | normal=>exact⟨E1,_,s1,{ p with k:=hk }⟩
 | exit i=>exact⟨E1,_,s1,{ p with k:=hk }⟩
 | goto l=>exact hk.elim
 | ret=>exact⟨E1,_,s1,{ p with k:=hk }⟩
 | panic h=>exact⟨E1,_,s1,{ p with k:=hk }⟩
theorem scopeJ {c:Code} {st:List Fr} {s:ASt}
 (round:∀ K',(∀ s',go C 1000000 .done st K s'->K' .normal s')->(∀ id s',go C 1000000 (.exit id) st K s'->K' (.exit id) s')->(∀ s',K .ret s'->K' .ret s')->(∀ v s',K (.panic v) s'->K' (.panic v) s')->
   go C 1000000 (.code c) [] K' s):Wait C (.scope c) st K s:=by
 intro hcode hst;refine aw_scope (go_sound 1000000 (.code c) [] _ _ (fun c' e=>by cases e;exact hcode) rfl (round _ ?_ ?_ ?_ ?_))
 ·intro s' h;exact go_sound _ _ _ _ _ (fun c e=>by cases e) hst h
 ·intro id s' h;exact go_sound _ _ _ _ _ (fun c e=>by cases e) hst h
 ·intro s' h;show unst C st K .ret _;rw[Vf];exact h
 ·intro v s' h;show unst C st K (.panic v) _;rw[YQ];exact h
end
end Go.Awp
namespace Go.Awp.R1
open Go Go.Awp Go.Proofs
def zd:V:=.agg [.str ⟨#[99,101,108,108]⟩,.str ⟨#[97,114,114,97,121]⟩,.str ⟨#[109,117,116,101,120]⟩,.str ⟨#[115,101,109]⟩,.str ⟨#[98,117,100,103,101,116]⟩,.str ⟨#[116,104,114,101,97,100]⟩]
def zb:V:=.agg [.str ⟨#[]⟩,.str ⟨#[108,111,97,100]⟩,.str ⟨#[115,116,111,114,101]⟩,.str ⟨#[97,100,100]⟩,.str ⟨#[115,119,97,112]⟩,.str ⟨#[99,97,115]⟩,.str ⟨#[108,111,99,107]⟩,.str ⟨#[117,110,108,111,99,107]⟩,.str ⟨#[116,114,121]⟩,.str ⟨#[119,97,105,116]⟩,.str ⟨#[112,111,115,116]⟩,.str ⟨#[115,112,97,119,110]⟩,.str ⟨#[106,111,105,110]⟩,.str ⟨#[97,115,115,101,114,116]⟩,.str ⟨#[97,115,115,117,109,101]⟩,.str ⟨#[105,102]⟩,.str ⟨#[119,104,105,108,101]⟩]
def yX:V:=.agg [.int .u64 1,.int .u64 10,.int .u64 100,.int .u64 1000,.int .u64 10000,.int .u64 100000,.int .u64 1000000,.int .u64 10000000,.int .u64 100000000,.int .u64 1000000000,.int .u64 10000000000,.int .u64 100000000000,.int .u64 1000000000000,.int .u64 10000000000000,.int .u64 100000000000000,.int .u64 1000000000000000,.int .u64 10000000000000000,.int .u64 100000000000000000,.int .u64 1000000000000000000,.int .u64 10000000000000000000]
def we:V:=.agg [.slice [.str ⟨#[61,61]⟩,.str ⟨#[33,61]⟩,.str ⟨#[60]⟩],.slice [.str ⟨#[43]⟩,.str ⟨#[45]⟩],.slice [.str ⟨#[42]⟩]]
def vg:V:=.agg [.str ⟨#[45]⟩,.str ⟨#[110,101,103]⟩,.str ⟨#[126]⟩,.str ⟨#[99,111,110,106]⟩,.str ⟨#[33]⟩,.str ⟨#[110,111,116]⟩,.str ⟨#[35]⟩,.str ⟨#[110,111,114,109]⟩]
def Weq:V:=.agg [.int .u8 0,.int .u8 1,.int .u8 28,.int .u8 2,.int .u8 29,.int .u8 14,.int .u8 24,.int .u8 3,.int .u8 30,.int .u8 22,.int .u8 20,.int .u8 15,.int .u8 25,.int .u8 17,.int .u8 4,.int .u8 8,.int .u8 31,.int .u8 27,.int .u8 13,.int .u8 23,.int .u8 21,.int .u8 19,.int .u8 16,.int .u8 7,.int .u8 26,.int .u8 12,.int .u8 18,.int .u8 6,.int .u8 11,.int .u8 5,.int .u8 10,.int .u8 9]
def Wdz:V:=.agg [.int .u8 0,.int .u8 1,.int .u8 56,.int .u8 2,.int .u8 57,.int .u8 49,.int .u8 28,.int .u8 3,.int .u8 61,.int .u8 58,.int .u8 42,.int .u8 50,.int .u8 38,.int .u8 29,.int .u8 17,.int .u8 4,.int .u8 62,.int .u8 47,.int .u8 59,.int .u8 36,.int .u8 45,.int .u8 43,.int .u8 51,.int .u8 22,.int .u8 53,.int .u8 39,.int .u8 33,.int .u8 30,.int .u8 24,.int .u8 18,.int .u8 12,.int .u8 5,.int .u8 63,.int .u8 55,.int .u8 48,.int .u8 27,.int .u8 60,.int .u8 41,.int .u8 37,.int .u8 16,.int .u8 46,.int .u8 35,.int .u8 44,.int .u8 21,.int .u8 52,.int .u8 32,.int .u8 23,.int .u8 11,.int .u8 54,.int .u8 26,.int .u8 40,.int .u8 15,.int .u8 34,.int .u8 20,.int .u8 31,.int .u8 10,.int .u8 25,.int .u8 14,.int .u8 19,.int .u8 9,.int .u8 13,.int .u8 8,.int .u8 7,.int .u8 6]
def gAll:List (Nat × V):=[(0,zd),(1,zb),(3,yX),(5,we),(6,.iface 293 .any),(7,.iface 293 .any),(8,vg),(9,Weq),(10,Wdz)]
noncomputable def TC:Ctx:=⟨Tryz.prog,gAll,[],by kernel_rfl,[]⟩
@[simp] theorem TCex:TC.ex=[]:=rfl
@[simp] theorem TCown:TC.own=[]:=rfl
@[simp] theorem TCG0:TC.G.lookup 0=some zd:=rfl
@[simp] theorem TCG1:TC.G.lookup 1=some zb:=rfl
@[simp] theorem TCG3:TC.G.lookup 3=some yX:=rfl
@[simp] theorem TCG5:TC.G.lookup 5=some we:=rfl
@[simp] theorem TCG7:TC.G.lookup 7=some (.iface 293 .any):=rfl
@[simp] theorem TCG8:TC.G.lookup 8=some vg:=rfl
theorem t2k:Qo TC.P 2=(.int .i64):=by kernel_rfl
attribute [simp] t2k
theorem t3s:Qx TC.P 3=some 1:=by kernel_rfl
theorem t3a:aggT TC.P 3=some false:=by kernel_rfl
theorem t3b:XC TC.P 3=some 8:=by kernel_rfl
theorem t3z:QQ TC.P 3=some (.int .i64 (0)):=by kernel_rfl
theorem t3k:Qo TC.P 3=(.int .i64):=by kernel_rfl
attribute [simp] t3s t3a t3b t3z t3k
theorem t4s:Qx TC.P 4=some 1:=by kernel_rfl
theorem t4a:aggT TC.P 4=some false:=by kernel_rfl
theorem t4b:XC TC.P 4=some 1:=by kernel_rfl
theorem t4z:QQ TC.P 4=some (.bool false):=by kernel_rfl
theorem t4k:Qo TC.P 4 = .bool:=by kernel_rfl
attribute [simp] t4s t4a t4b t4z t4k
theorem t5s:Qx TC.P 5=some 1:=by kernel_rfl
theorem t5a:aggT TC.P 5=some false:=by kernel_rfl
theorem t5k:Qo TC.P 5=(.int .u8):=by kernel_rfl
attribute [simp] t5s t5a t5k
theorem t9s:Qx TC.P 9=some 1:=by kernel_rfl
theorem t9a:aggT TC.P 9=some false:=by kernel_rfl
theorem t9b:XC TC.P 9=some 16:=by kernel_rfl
theorem t9z:QQ TC.P 9=some (.str ⟨#[]⟩):=by kernel_rfl
theorem t9k:Qo TC.P 9 = .str:=by kernel_rfl
attribute [simp] t9s t9a t9b t9z t9k
theorem t20k:Qo TC.P 20 = .iface:=by kernel_rfl
attribute [simp] t20k
theorem t21k:Qo TC.P 21=(.int .i32):=by kernel_rfl
attribute [simp] t21k
theorem t22s:Qx TC.P 22=some 1:=by kernel_rfl
theorem t22a:aggT TC.P 22=some false:=by kernel_rfl
theorem t22k:Qo TC.P 22=(.int .i8):=by kernel_rfl
attribute [simp] t22s t22a t22k
theorem t23s:Qx TC.P 23=some 1:=by kernel_rfl
theorem t23a:aggT TC.P 23=some false:=by kernel_rfl
theorem t23e:Wt TC.P 23=some 73:=by kernel_rfl
theorem t23k:Qo TC.P 23 = .slice:=by kernel_rfl
attribute [simp] t23s t23a t23e t23k
theorem t25s:Qx TC.P 25=some 7:=by kernel_rfl
theorem t25a:aggT TC.P 25=some true:=by kernel_rfl
theorem t25f0:fldT TC.P 25 0=some (0,5):=by kernel_rfl
theorem t25f1:fldT TC.P 25 1=some (1,5):=by kernel_rfl
theorem t25f2:fldT TC.P 25 2=some (2,5):=by kernel_rfl
theorem t25f3:fldT TC.P 25 3=some (3,5):=by kernel_rfl
theorem t25f4:fldT TC.P 25 4=some (4,5):=by kernel_rfl
theorem t25f5:fldT TC.P 25 5=some (5,22):=by kernel_rfl
theorem t25f6:fldT TC.P 25 6=some (6,23):=by kernel_rfl
attribute [simp] t25s t25a t25f0 t25f1 t25f2 t25f3 t25f4 t25f5 t25f6
theorem t27e:Wt TC.P 27=some 51:=by kernel_rfl
theorem t27k:Qo TC.P 27 = .slice:=by kernel_rfl
attribute [simp] t27e t27k
theorem t28s:Qx TC.P 28=some 1:=by kernel_rfl
theorem t28a:aggT TC.P 28=some false:=by kernel_rfl
attribute [simp] t28s t28a
theorem t30s:Qx TC.P 30=some 3:=by kernel_rfl
theorem t30a:aggT TC.P 30=some true:=by kernel_rfl
theorem t30p:Wm TC.P 30=some [(0,1),(1,1),(2,1)]:=by kernel_rfl
theorem t30f0:fldT TC.P 30 0=some (0,28):=by kernel_rfl
theorem t30f1:fldT TC.P 30 1=some (1,28):=by kernel_rfl
theorem t30f2:fldT TC.P 30 2=some (2,3):=by kernel_rfl
attribute [simp] t30s t30a t30p t30f0 t30f1 t30f2
theorem t31s:Qx TC.P 31=some 1:=by kernel_rfl
theorem t31a:aggT TC.P 31=some false:=by kernel_rfl
theorem t31e:Wt TC.P 31=some 41:=by kernel_rfl
theorem t31k:Qo TC.P 31 = .slice:=by kernel_rfl
attribute [simp] t31s t31a t31e t31k
theorem t32s:Qx TC.P 32=some 1:=by kernel_rfl
theorem t32a:aggT TC.P 32=some false:=by kernel_rfl
theorem t32e:Wt TC.P 32=some 82:=by kernel_rfl
theorem t32k:Qo TC.P 32 = .slice:=by kernel_rfl
attribute [simp] t32s t32a t32e t32k
theorem t33s:Qx TC.P 33=some 1:=by kernel_rfl
theorem t33a:aggT TC.P 33=some false:=by kernel_rfl
theorem t33b:XC TC.P 33=some 24:=by kernel_rfl
theorem t33e:Wt TC.P 33=some 3:=by kernel_rfl
theorem t33z:QQ TC.P 33=some .snil:=by kernel_rfl
theorem t33k:Qo TC.P 33 = .slice:=by kernel_rfl
attribute [simp] t33s t33a t33b t33e t33z t33k
theorem t35s:Qx TC.P 35=some 5:=by kernel_rfl
theorem t35a:aggT TC.P 35=some true:=by kernel_rfl
theorem t35p:Wm TC.P 35=some [(0,1),(1,1),(2,1),(3,1),(4,1)]:=by kernel_rfl
theorem t35f0:fldT TC.P 35 0=some (0,31):=by kernel_rfl
theorem t35f1:fldT TC.P 35 1=some (1,32):=by kernel_rfl
theorem t35f2:fldT TC.P 35 2=some (2,3):=by kernel_rfl
theorem t35f3:fldT TC.P 35 3=some (3,33):=by kernel_rfl
attribute [simp] t35s t35a t35p t35f0 t35f1 t35f2 t35f3
theorem t38s:Qx TC.P 38=some 1:=by kernel_rfl
theorem t38a:aggT TC.P 38=some false:=by kernel_rfl
theorem t38e:Wt TC.P 38=some 63:=by kernel_rfl
theorem t38k:Qo TC.P 38 = .slice:=by kernel_rfl
attribute [simp] t38s t38a t38e t38k
theorem t39s:Qx TC.P 39=some 1:=by kernel_rfl
theorem t39a:aggT TC.P 39=some false:=by kernel_rfl
theorem t39b:XC TC.P 39=some 24:=by kernel_rfl
theorem t39e:Wt TC.P 39=some 9:=by kernel_rfl
theorem t39z:QQ TC.P 39=some .snil:=by kernel_rfl
theorem t39k:Qo TC.P 39 = .slice:=by kernel_rfl
attribute [simp] t39s t39a t39b t39e t39z t39k
theorem t41s:Qx TC.P 41=some 2:=by kernel_rfl
theorem t41a:aggT TC.P 41=some true:=by kernel_rfl
theorem t41b:XC TC.P 41=some 48:=by kernel_rfl
theorem t41z:QQ TC.P 41=some (.agg [.snil,.snil]):=by kernel_rfl
theorem t41p:Wm TC.P 41=some [(0,1),(1,1)]:=by kernel_rfl
theorem t41f0:fldT TC.P 41 0=some (0,38):=by kernel_rfl
attribute [simp] t41s t41a t41b t41z t41p t41f0
theorem t46s:Qx TC.P 46=some 1:=by kernel_rfl
theorem t46a:aggT TC.P 46=some false:=by kernel_rfl
theorem t46e:Wt TC.P 46=some 49:=by kernel_rfl
theorem t46k:Qo TC.P 46 = .slice:=by kernel_rfl
attribute [simp] t46s t46a t46e t46k
theorem t49s:Qx TC.P 49=some 2:=by kernel_rfl
theorem t49a:aggT TC.P 49=some true:=by kernel_rfl
theorem t49b:XC TC.P 49=some 16:=by kernel_rfl
theorem t49z:QQ TC.P 49=some (.agg [(.int .i64 (0)),(.bool false)]):=by kernel_rfl
theorem t49p:Wm TC.P 49=some [(0,1),(1,1)]:=by kernel_rfl
theorem t49f0:fldT TC.P 49 0=some (0,3):=by kernel_rfl
theorem t49f1:fldT TC.P 49 1=some (1,4):=by kernel_rfl
theorem t49c:cmpT TC.P 49=some [(0,3),(1,4)]:=by kernel_rfl
theorem t49k:Qo TC.P 49 = .struct:=by kernel_rfl
attribute [simp] t49s t49a t49b t49z t49p t49f0 t49f1 t49c t49k
theorem t51s:Qx TC.P 51=some 1:=by kernel_rfl
theorem t51a:aggT TC.P 51=some false:=by kernel_rfl
theorem t51b:XC TC.P 51=some 24:=by kernel_rfl
theorem t51e:Wt TC.P 51=some 56:=by kernel_rfl
theorem t51z:QQ TC.P 51=some .snil:=by kernel_rfl
theorem t51k:Qo TC.P 51 = .slice:=by kernel_rfl
attribute [simp] t51s t51a t51b t51e t51z t51k
theorem t53s:Qx TC.P 53=some 1:=by kernel_rfl
theorem t53a:aggT TC.P 53=some false:=by kernel_rfl
theorem t53z:QQ TC.P 53=some (.int .i64 (0)):=by kernel_rfl
theorem t53k:Qo TC.P 53=(.int .i64):=by kernel_rfl
attribute [simp] t53s t53a t53z t53k
theorem t54s:Qx TC.P 54=some 1:=by kernel_rfl
theorem t54a:aggT TC.P 54=some false:=by kernel_rfl
theorem t54e:Wt TC.P 54=some 192:=by kernel_rfl
theorem t54k:Qo TC.P 54 = .slice:=by kernel_rfl
attribute [simp] t54s t54a t54e t54k
theorem t56s:Qx TC.P 56=some 8:=by kernel_rfl
theorem t56a:aggT TC.P 56=some true:=by kernel_rfl
theorem t56b:XC TC.P 56=some 128:=by kernel_rfl
theorem t56z:QQ TC.P 56=some (.agg [(.int .i64 (0)),(.str ⟨#[]⟩),(.str ⟨#[]⟩),(.bool false),.snil,.snil,.snil,(.int .i64 (0))]):=by kernel_rfl
theorem t56p:Wm TC.P 56=some [(0,1),(1,1),(2,1),(3,1),(4,1),(5,1),(6,1),(7,1)]:=by kernel_rfl
theorem t56f0:fldT TC.P 56 0=some (0,53):=by kernel_rfl
theorem t56f1:fldT TC.P 56 1=some (1,9):=by kernel_rfl
theorem t56f2:fldT TC.P 56 2=some (2,9):=by kernel_rfl
theorem t56f3:fldT TC.P 56 3=some (3,4):=by kernel_rfl
theorem t56f4:fldT TC.P 56 4=some (4,54):=by kernel_rfl
theorem t56f5:fldT TC.P 56 5=some (5,51):=by kernel_rfl
theorem t56f6:fldT TC.P 56 6=some (6,51):=by kernel_rfl
theorem t56f7:fldT TC.P 56 7=some (7,3):=by kernel_rfl
attribute [simp] t56s t56a t56b t56z t56p t56f0 t56f1 t56f2 t56f3 t56f4 t56f5 t56f6 t56f7
theorem t61k:Qo TC.P 61=(.int .u64):=by kernel_rfl
attribute [simp] t61k
theorem t63s:Qx TC.P 63=some 7:=by kernel_rfl
theorem t63a:aggT TC.P 63=some true:=by kernel_rfl
theorem t63b:XC TC.P 63=some 72:=by kernel_rfl
theorem t63z:QQ TC.P 63=some (.agg [(.int .i64 (0)),(.int .i64 (0)),(.int .i64 (0)),(.int .i64 (0)),(.bool false),.snil,(.int .i64 (0))]):=by kernel_rfl
theorem t63p:Wm TC.P 63=some [(0,1),(1,1),(2,1),(3,1),(4,1),(5,1),(6,1)]:=by kernel_rfl
theorem t63f0:fldT TC.P 63 0=some (0,53):=by kernel_rfl
theorem t63f1:fldT TC.P 63 1=some (1,3):=by kernel_rfl
theorem t63f2:fldT TC.P 63 2=some (2,3):=by kernel_rfl
theorem t63f3:fldT TC.P 63 3=some (3,3):=by kernel_rfl
theorem t63f6:fldT TC.P 63 6=some (6,3):=by kernel_rfl
attribute [simp] t63s t63a t63b t63z t63p t63f0 t63f1 t63f2 t63f3 t63f6
theorem t70s:Qx TC.P 70=some 1:=by kernel_rfl
theorem t70a:aggT TC.P 70=some false:=by kernel_rfl
theorem t70z:QQ TC.P 70=some (.int .i64 (0)):=by kernel_rfl
theorem t70k:Qo TC.P 70=(.int .i64):=by kernel_rfl
attribute [simp] t70s t70a t70z t70k
theorem t73s:Qx TC.P 73=some 1:=by kernel_rfl
theorem t73a:aggT TC.P 73=some false:=by kernel_rfl
theorem t73e:Wt TC.P 73=some 166:=by kernel_rfl
theorem t73z:QQ TC.P 73=some .snil:=by kernel_rfl
theorem t73k:Qo TC.P 73 = .slice:=by kernel_rfl
attribute [simp] t73s t73a t73e t73z t73k
theorem t75s:Qx TC.P 75=some 1:=by kernel_rfl
theorem t75a:aggT TC.P 75=some false:=by kernel_rfl
theorem t75e:Wt TC.P 75=some 84:=by kernel_rfl
theorem t75k:Qo TC.P 75 = .slice:=by kernel_rfl
attribute [simp] t75s t75a t75e t75k
theorem t77s:Qx TC.P 77=some 1:=by kernel_rfl
theorem t77a:aggT TC.P 77=some true:=by kernel_rfl
theorem t77z:QQ TC.P 77=some (.agg [.snil]):=by kernel_rfl
theorem t77p:Wm TC.P 77=some [(0,1)]:=by kernel_rfl
theorem t77f0:fldT TC.P 77 0=some (0,75):=by kernel_rfl
attribute [simp] t77s t77a t77z t77p t77f0
theorem t81s:Qx TC.P 81=some 1:=by kernel_rfl
theorem t81a:aggT TC.P 81=some false:=by kernel_rfl
theorem t81k:Qo TC.P 81=(.int .i64):=by kernel_rfl
attribute [simp] t81s t81a t81k
theorem t82s:Qx TC.P 82=some 1:=by kernel_rfl
theorem t82a:aggT TC.P 82=some false:=by kernel_rfl
theorem t82b:XC TC.P 82=some 16:=by kernel_rfl
theorem t82z:QQ TC.P 82=some (.cplx .f64 0 0):=by kernel_rfl
theorem t82k:Qo TC.P 82=(.cplx .f64):=by kernel_rfl
attribute [simp] t82s t82a t82b t82z t82k
theorem t84s:Qx TC.P 84=some 5:=by kernel_rfl
theorem t84a:aggT TC.P 84=some true:=by kernel_rfl
theorem t84b:XC TC.P 84=some 72:=by kernel_rfl
theorem t84z:QQ TC.P 84=some (.agg [(.int .i64 (0)),(.str ⟨#[]⟩),(.cplx .f64 0 0),.snil,(.int .i64 (0))]):=by kernel_rfl
theorem t84p:Wm TC.P 84=some [(0,1),(1,1),(2,1),(3,1),(4,1)]:=by kernel_rfl
theorem t84f0:fldT TC.P 84 0=some (0,81):=by kernel_rfl
theorem t84f1:fldT TC.P 84 1=some (1,9):=by kernel_rfl
theorem t84f2:fldT TC.P 84 2=some (2,82):=by kernel_rfl
theorem t84f3:fldT TC.P 84 3=some (3,51):=by kernel_rfl
theorem t84f4:fldT TC.P 84 4=some (4,3):=by kernel_rfl
attribute [simp] t84s t84a t84b t84z t84p t84f0 t84f1 t84f2 t84f3 t84f4
theorem t86e:Wt TC.P 86=some 4:=by kernel_rfl
theorem t86k:Qo TC.P 86 = .slice:=by kernel_rfl
attribute [simp] t86e t86k
theorem t88s:Qx TC.P 88=some 2:=by kernel_rfl
theorem t88a:aggT TC.P 88=some true:=by kernel_rfl
theorem t88b:XC TC.P 88=some 32:=by kernel_rfl
theorem t88z:QQ TC.P 88=some (.agg [(.int .i64 (0)),.snil]):=by kernel_rfl
theorem t88p:Wm TC.P 88=some [(0,1),(1,1)]:=by kernel_rfl
theorem t88f0:fldT TC.P 88 0=some (0,3):=by kernel_rfl
theorem t88f1:fldT TC.P 88 1=some (1,46):=by kernel_rfl
attribute [simp] t88s t88a t88b t88z t88p t88f0 t88f1
theorem t91s:Qx TC.P 91=some 1:=by kernel_rfl
theorem t91a:aggT TC.P 91=some false:=by kernel_rfl
theorem t91k:Qo TC.P 91 = .map:=by kernel_rfl
attribute [simp] t91s t91a t91k
theorem t92s:Qx TC.P 92=some 1:=by kernel_rfl
theorem t92a:aggT TC.P 92=some false:=by kernel_rfl
theorem t92e:Wt TC.P 92=some 39:=by kernel_rfl
theorem t92k:Qo TC.P 92 = .slice:=by kernel_rfl
attribute [simp] t92s t92a t92e t92k
theorem t94s:Qx TC.P 94=some 6:=by kernel_rfl
theorem t94a:aggT TC.P 94=some true:=by kernel_rfl
theorem t94p:Wm TC.P 94=some [(0,1),(1,1),(2,1),(3,1),(4,1),(5,1)]:=by kernel_rfl
theorem t94f0:fldT TC.P 94 0=some (0,91):=by kernel_rfl
theorem t94f1:fldT TC.P 94 1=some (1,3):=by kernel_rfl
theorem t94f2:fldT TC.P 94 2=some (2,3):=by kernel_rfl
theorem t94f3:fldT TC.P 94 3=some (3,39):=by kernel_rfl
theorem t94f4:fldT TC.P 94 4=some (4,92):=by kernel_rfl
theorem t94f5:fldT TC.P 94 5=some (5,3):=by kernel_rfl
attribute [simp] t94s t94a t94p t94f0 t94f1 t94f2 t94f3 t94f4 t94f5
theorem t99s:Qx TC.P 99=some 1:=by kernel_rfl
theorem t99a:aggT TC.P 99=some false:=by kernel_rfl
theorem t99e:Wt TC.P 99=some 88:=by kernel_rfl
theorem t99k:Qo TC.P 99 = .slice:=by kernel_rfl
attribute [simp] t99s t99a t99e t99k
theorem t100e:Wt TC.P 100=some 103:=by kernel_rfl
theorem t100k:Qo TC.P 100 = .slice:=by kernel_rfl
attribute [simp] t100e t100k
theorem t103s:Qx TC.P 103=some 2:=by kernel_rfl
theorem t103a:aggT TC.P 103=some true:=by kernel_rfl
theorem t103b:XC TC.P 103=some 16:=by kernel_rfl
theorem t103z:QQ TC.P 103=some (.agg [(.int .i64 (0)),(.int .i64 (0))]):=by kernel_rfl
theorem t103p:Wm TC.P 103=some [(0,1),(1,1)]:=by kernel_rfl
theorem t103f0:fldT TC.P 103 0=some (0,3):=by kernel_rfl
theorem t103f1:fldT TC.P 103 1=some (1,3):=by kernel_rfl
theorem t103c:cmpT TC.P 103=some [(0,3),(1,3)]:=by kernel_rfl
theorem t103k:Qo TC.P 103 = .struct:=by kernel_rfl
attribute [simp] t103s t103a t103b t103z t103p t103f0 t103f1 t103c t103k
theorem t110k:Qo TC.P 110=(.float .f64):=by kernel_rfl
attribute [simp] t110k
theorem t113s:Qx TC.P 113=some 1:=by kernel_rfl
theorem t113a:aggT TC.P 113=some false:=by kernel_rfl
theorem t113e:Wt TC.P 113=some 121:=by kernel_rfl
theorem t113k:Qo TC.P 113 = .slice:=by kernel_rfl
attribute [simp] t113s t113a t113e t113k
theorem t118z:QQ TC.P 118=some (.agg [.snil,(.int .i64 (0)),(.int .i64 (0))]):=by kernel_rfl
theorem t118p:Wm TC.P 118=some [(0,1),(1,1),(2,1)]:=by kernel_rfl
theorem t118f0:fldT TC.P 118 0=some (0,113):=by kernel_rfl
theorem t118f1:fldT TC.P 118 1=some (1,3):=by kernel_rfl
theorem t118f2:fldT TC.P 118 2=some (2,70):=by kernel_rfl
attribute [simp] t118z t118p t118f0 t118f1 t118f2
theorem t119s:Qx TC.P 119=some 1:=by kernel_rfl
theorem t119a:aggT TC.P 119=some false:=by kernel_rfl
theorem t119k:Qo TC.P 119=(.int .i64):=by kernel_rfl
attribute [simp] t119s t119a t119k
theorem t121s:Qx TC.P 121=some 4:=by kernel_rfl
theorem t121a:aggT TC.P 121=some true:=by kernel_rfl
theorem t121b:XC TC.P 121=some 48:=by kernel_rfl
theorem t121z:QQ TC.P 121=some (.agg [(.int .i64 (0)),(.str ⟨#[]⟩),(.cplx .f64 0 0),(.int .i64 (0))]):=by kernel_rfl
theorem t121p:Wm TC.P 121=some [(0,1),(1,1),(2,1),(3,1)]:=by kernel_rfl
theorem t121f0:fldT TC.P 121 0=some (0,119):=by kernel_rfl
theorem t121f1:fldT TC.P 121 1=some (1,9):=by kernel_rfl
theorem t121f2:fldT TC.P 121 2=some (2,82):=by kernel_rfl
theorem t121f3:fldT TC.P 121 3=some (3,3):=by kernel_rfl
attribute [simp] t121s t121a t121b t121z t121p t121f0 t121f1 t121f2 t121f3
theorem t123s:Qx TC.P 123=some 6:=by kernel_rfl
theorem t123a:aggT TC.P 123=some true:=by kernel_rfl
theorem t123r:arrT TC.P 123=some (6,9):=by kernel_rfl
theorem t123z:QQ TC.P 123=some (.agg [(.str ⟨#[]⟩),(.str ⟨#[]⟩),(.str ⟨#[]⟩),(.str ⟨#[]⟩),(.str ⟨#[]⟩),(.str ⟨#[]⟩)]):=by kernel_rfl
theorem t123p:Wm TC.P 123=none:=by kernel_rfl
theorem t123k:Qo TC.P 123 = .array:=by kernel_rfl
attribute [simp] t123s t123a t123r t123z t123p t123k
theorem t135s:Qx TC.P 135=some 2:=by kernel_rfl
theorem t135z:QQ TC.P 135=some (.agg [(.int .i64 (0)),(.int .i64 (0))]):=by kernel_rfl
theorem t135p:Wm TC.P 135=some [(0,1),(1,1)]:=by kernel_rfl
theorem t135f0:fldT TC.P 135 0=some (0,3):=by kernel_rfl
theorem t135f1:fldT TC.P 135 1=some (1,70):=by kernel_rfl
theorem t135k:Qo TC.P 135 = .struct:=by kernel_rfl
attribute [simp] t135s t135z t135p t135f0 t135f1 t135k
theorem t139z:QQ TC.P 139=some (.agg [.snil,(.int .i64 (0))]):=by kernel_rfl
theorem t139p:Wm TC.P 139=some [(0,1),(1,1)]:=by kernel_rfl
theorem t139f0:fldT TC.P 139 0=some (0,113):=by kernel_rfl
theorem t139f1:fldT TC.P 139 1=some (1,3):=by kernel_rfl
attribute [simp] t139z t139p t139f0 t139f1
theorem t141s:Qx TC.P 141=some 1:=by kernel_rfl
theorem t141a:aggT TC.P 141=some false:=by kernel_rfl
attribute [simp] t141s t141a
theorem t146z:QQ TC.P 146=some (.agg [.nilp,.snil]):=by kernel_rfl
theorem t146p:Wm TC.P 146=some [(0,1),(1,1)]:=by kernel_rfl
theorem t146f0:fldT TC.P 146 0=some (0,141):=by kernel_rfl
theorem t146f1:fldT TC.P 146 1=some (1,39):=by kernel_rfl
attribute [simp] t146z t146p t146f0 t146f1
theorem t150s:Qx TC.P 150=some 4:=by kernel_rfl
theorem t150a:aggT TC.P 150=some true:=by kernel_rfl
theorem t150z:QQ TC.P 150=some (.agg [(.int .i64 (0)),(.int .i64 (0)),(.int .i64 (0)),(.cplx .f64 0 0)]):=by kernel_rfl
theorem t150p:Wm TC.P 150=some [(0,1),(1,1),(2,1),(3,1)]:=by kernel_rfl
theorem t150f0:fldT TC.P 150 0=some (0,81):=by kernel_rfl
theorem t150f1:fldT TC.P 150 1=some (1,3):=by kernel_rfl
theorem t150f2:fldT TC.P 150 2=some (2,3):=by kernel_rfl
attribute [simp] t150s t150a t150z t150p t150f0 t150f1 t150f2
theorem t153p:Wm TC.P 153=some [(0,6),(6,1),(7,1)]:=by kernel_rfl
theorem t153f0:fldT TC.P 153 0=some (0,94):=by kernel_rfl
theorem t153f1:fldT TC.P 153 1=some (6,39):=by kernel_rfl
theorem t153f2:fldT TC.P 153 2=some (7,38):=by kernel_rfl
attribute [simp] t153p t153f0 t153f1 t153f2
theorem t155s:Qx TC.P 155=some 1:=by kernel_rfl
theorem t155a:aggT TC.P 155=some false:=by kernel_rfl
theorem t155e:Wt TC.P 155=some 33:=by kernel_rfl
theorem t155k:Qo TC.P 155 = .slice:=by kernel_rfl
attribute [simp] t155s t155a t155e t155k
theorem t157s:Qx TC.P 157=some 3:=by kernel_rfl
theorem t157a:aggT TC.P 157=some true:=by kernel_rfl
theorem t157z:QQ TC.P 157=some (.agg [.snil,.snil,.snil]):=by kernel_rfl
theorem t157p:Wm TC.P 157=some [(0,1),(1,1),(2,1)]:=by kernel_rfl
theorem t157f0:fldT TC.P 157 0=some (0,99):=by kernel_rfl
theorem t157f1:fldT TC.P 157 1=some (1,155):=by kernel_rfl
theorem t157f2:fldT TC.P 157 2=some (2,33):=by kernel_rfl
attribute [simp] t157s t157a t157z t157p t157f0 t157f1 t157f2
theorem t166s:Qx TC.P 166=some 5:=by kernel_rfl
theorem t166a:aggT TC.P 166=some true:=by kernel_rfl
theorem t166f0:fldT TC.P 166 0=some (0,5):=by kernel_rfl
theorem t166f1:fldT TC.P 166 1=some (1,5):=by kernel_rfl
theorem t166f2:fldT TC.P 166 2=some (2,5):=by kernel_rfl
theorem t166f3:fldT TC.P 166 3=some (3,5):=by kernel_rfl
theorem t166f4:fldT TC.P 166 4=some (4,22):=by kernel_rfl
attribute [simp] t166s t166a t166f0 t166f1 t166f2 t166f3 t166f4
theorem t174s:Qx TC.P 174=some 17:=by kernel_rfl
theorem t174r:arrT TC.P 174=some (17,9):=by kernel_rfl
theorem t174z:QQ TC.P 174=some (.agg [(.str ⟨#[]⟩),(.str ⟨#[]⟩),(.str ⟨#[]⟩),(.str ⟨#[]⟩),(.str ⟨#[]⟩),(.str ⟨#[]⟩),(.str ⟨#[]⟩),(.str ⟨#[]⟩),(.str ⟨#[]⟩),(.str ⟨#[]⟩),(.str ⟨#[]⟩),(.str ⟨#[]⟩),(.str ⟨#[]⟩),(.str ⟨#[]⟩),(.str ⟨#[]⟩),(.str ⟨#[]⟩),(.str ⟨#[]⟩)]):=by kernel_rfl
theorem t174p:Wm TC.P 174=none:=by kernel_rfl
attribute [simp] t174s t174r t174z t174p
theorem t178k:Qo TC.P 178=(.int .u64):=by kernel_rfl
attribute [simp] t178k
theorem t188s:Qx TC.P 188=some 2:=by kernel_rfl
theorem t188a:aggT TC.P 188=some true:=by kernel_rfl
theorem t188r:arrT TC.P 188=some (2,81):=by kernel_rfl
theorem t188z:QQ TC.P 188=some (.agg [(.int .i64 (0)),(.int .i64 (0))]):=by kernel_rfl
theorem t188p:Wm TC.P 188=none:=by kernel_rfl
attribute [simp] t188s t188a t188r t188z t188p
theorem t189r:arrT TC.P 189=some (4,188):=by kernel_rfl
theorem t189z:QQ TC.P 189=some (.agg [(.int .i64 (0)),(.int .i64 (0)),(.int .i64 (0)),(.int .i64 (0)),(.int .i64 (0)),(.int .i64 (0)),(.int .i64 (0)),(.int .i64 (0))]):=by kernel_rfl
theorem t189p:Wm TC.P 189=none:=by kernel_rfl
theorem t189k:Qo TC.P 189 = .array:=by kernel_rfl
attribute [simp] t189r t189z t189p t189k
theorem t192s:Qx TC.P 192=some 4:=by kernel_rfl
theorem t192a:aggT TC.P 192=some true:=by kernel_rfl
theorem t192b:XC TC.P 192=some 72:=by kernel_rfl
theorem t192z:QQ TC.P 192=some (.agg [(.str ⟨#[]⟩),(.cplx .f64 0 0),(.str ⟨#[]⟩),.snil]):=by kernel_rfl
theorem t192p:Wm TC.P 192=some [(0,1),(1,1),(2,1),(3,1)]:=by kernel_rfl
theorem t192f0:fldT TC.P 192 0=some (0,9):=by kernel_rfl
theorem t192f1:fldT TC.P 192 1=some (1,82):=by kernel_rfl
theorem t192f2:fldT TC.P 192 2=some (2,9):=by kernel_rfl
theorem t192f3:fldT TC.P 192 3=some (3,54):=by kernel_rfl
attribute [simp] t192s t192a t192b t192z t192p t192f0 t192f1 t192f2 t192f3
theorem t195r:arrT TC.P 195=some (2,51):=by kernel_rfl
theorem t195z:QQ TC.P 195=some (.agg [.snil,.snil]):=by kernel_rfl
theorem t195p:Wm TC.P 195=none:=by kernel_rfl
theorem t195k:Qo TC.P 195 = .array:=by kernel_rfl
attribute [simp] t195r t195z t195p t195k
theorem t203e:Wt TC.P 203=some 53:=by kernel_rfl
attribute [simp] t203e
theorem t237k:Qo TC.P 237 = .iface:=by kernel_rfl
attribute [simp] t237k
theorem t282r:arrT TC.P 282=some (3,39):=by kernel_rfl
attribute [simp] t282r
theorem t289s:Qx TC.P 289=some 2:=by kernel_rfl
theorem t289a:aggT TC.P 289=some true:=by kernel_rfl
theorem t289r:arrT TC.P 289=some (2,9):=by kernel_rfl
theorem t289z:QQ TC.P 289=some (.agg [(.str ⟨#[]⟩),(.str ⟨#[]⟩)]):=by kernel_rfl
attribute [simp] t289s t289a t289r t289z
theorem t290s:Qx TC.P 290=some 8:=by kernel_rfl
theorem t290a:aggT TC.P 290=some true:=by kernel_rfl
theorem t290r:arrT TC.P 290=some (4,289):=by kernel_rfl
theorem t290k:Qo TC.P 290 = .array:=by kernel_rfl
attribute [simp] t290s t290a t290r t290k
end Go.Awp.R1
