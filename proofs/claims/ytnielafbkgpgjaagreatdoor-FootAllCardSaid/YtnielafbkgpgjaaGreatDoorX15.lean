/- AWP, text 28: texts as lists of bytes; contracts out of the kit's own. -/
import Derived.Test.YtnielafbkgpgjaaGreatDoorX13
import Derived.Test.YtnielafbkgpgjaaGreatDoorX14
import Derived.Laws.Strings2
import Derived.Test.YtnielafbkgpgjaaGreatDoorRows
import Derived.Stop.Joined
set_option linter.all false
set_option maxRecDepth 100000
set_option maxHeartbeats 8000000
namespace Go.Awp
open Go
def bs (l:List UInt8):ByteArray:=⟨l.toArray⟩
@[simp] theorem bs_toList (l:List UInt8):(bs l).toList=l:=by
 have h:=ByteArray.toList_eq (bs l);rw[h];simp[bs]
@[simp] theorem bs_size (l:List UInt8):(bs l).size=l.length:=by simp[bs,ByteArray.size]
@[simp] theorem bs_append (a b:List UInt8):bs a++bs b=bs (a++b):=by
 apply ByteArray.ext;simp[bs]
@[simp] theorem bs_extract (l:List UInt8) (a b:Nat):(bs l).extract a b=bs ((l.drop a).take (b - a)):=ByteArray.extract_mk l a b
@[simp] theorem bs_get (l:List UInt8) (i:Nat):(bs l)[i]? = l[i]?:=by
 rw[getElem?_def,getElem?_def];simp only[bs_size];split<;>rfl
attribute [simp] atV
@[simp] theorem bs_nil:(ByteArray.mk #[])=bs []:=rfl
section
variable {C:Ctx}
theorem Yx {f:FuncId} {args:List V} {v:V} (he:Enter C.P f)
 (h:∀ (E:Amb) (cargs:List Value),Xu C E->RepL E args cargs->Calls C.P f cargs.toArray E.w fun e w'=>∃ cv,e = .returned cv/\Go.RowKit.Below E.w.heap.size E.w w'/\∀ E':Amb,E.Le E'->E'.w=w'->Rep E' v cv):Ql C f args v:=by
 refine⟨he,fun E cargs L hs hg ha hL=>(h E cargs hg ha).mono ?_⟩;rintro e w' ⟨cv,rfl,hb,hr⟩
 let E':Amb:={ E with w:=w' }
 have hle:E.Le E':=⟨fun _ _ h=>h,fun b o hi=>World.cell?_of_block (hb.block b (hs.imm b o hi)),fun _=>Loc.Le.refl _,fun b es c hi h=>(hb.block b (hs.imm b 0 hi)).trans h⟩
 exact⟨E',_,[],rfl,⟨rfl,rfl⟩,.ret (hr E' hle rfl),⟨by simp,by simp[Qa.keys],by simp[Qa.keys],fun b o hi=>Nat.lt_of_lt_of_le (hs.imm b o hi) hb.size,hs.fin⟩,
  ⟨hle,fun b hb' _=>hb.block b hb',fun _ _ h=>.inl h,fun _ _ _=>rfl,fun _ h=>by simp[Qa.keys] at h,fun b ⟨_,h,_⟩=>by simp[Qa.keys] at h,hb.os,hb.tape,hb.output,hb.size⟩,fun _ _ h=>h⟩
theorem glob_var {E:Amb} (hg:Xu C E) {g:Nat} {c0:V} {cs:List V} (h:C.G.lookup g=some (.agg (c0::cs))):∃ arr t z,E.w.heap[g]? = some (.cells arr t z)/\RepL E (c0::cs) arr.toList:=by
 obtain⟨h1,h2,h3⟩:=hg g _ h;obtain⟨b,o,e,⟨cvs,hr,_,hc⟩,_⟩:=h1.reads;cases e;have hlen:cvs.length=(c0::cs).length:=hr.length;have h0:0<cvs.length:=by rw[hlen];simp
 have hc0:=hc 0 _ (List.getElem?_eq_getElem h0);unfold World.cell? at hc0 hc h3;simp only[Option.isSome_none,Bool.false_eq_true,if_false,Nat.zero_add] at hc0 hc h3;split at hc0
 ·rename_i arr t z hg';refine⟨arr,t,z,hg',?_⟩;rw[hg'] at h3;have hsz:arr.size<=(c0::cs).length:=by
   have h3:arr[(V.agg (c0::cs)).cells.length]? = none:=h3;exact Array.getElem?_eq_none_iff.1 h3
  have heq:arr.toList=cvs:=by
   apply List.ext_getElem?;intro j;by_cases hj:j<cvs.length
   ·have:=hc j _ (List.getElem?_eq_getElem hj);rw[hg'] at this;rw[List.getElem?_eq_getElem hj];simpa using this
   ·rw[List.getElem?_eq_none (by simp;omega),List.getElem?_eq_none (by omega)]
  rw[heq];exact hr
 ·cases hc0
end
section
variable {C:Ctx} {K:QH->ASt->Prop} {st:List Fr} {n:Nat} {ops:Array Oper} {r:List Oper} {dst:Option Tmp} {s:ASt}
@[simp] theorem OpO_real {x:Operand} {t:TypeId}:OpO C n dst (.call { callee:=.builtin .real,args:=#[x],argTypes:=#[t] }) ops r st K s=ResO C n (Wr ((lkA C s.τ x).bind fun a=>Uo C.P .real [t] [a])) dst ops r st K s:=by
 rw[XI,WL rfl rfl rfl];congr 2;simp only[QY,allV];cases lkA C s.τ x<;>rfl
@[simp] theorem OpO_imag {x:Operand} {t:TypeId}:OpO C n dst (.call { callee:=.builtin .imag,args:=#[x],argTypes:=#[t] }) ops r st K s=ResO C n (Wr ((lkA C s.τ x).bind fun a=>Uo C.P .imag [t] [a])) dst ops r st K s:=by
 rw[XI,WL rfl rfl rfl];congr 2;simp only[QY,allV];cases lkA C s.τ x<;>rfl
@[simp] theorem OpO_complex {x y:Operand} {t u:TypeId}:OpO C n dst (.call { callee:=.builtin .complex,args:=#[x,y],argTypes:=#[t,u] }) ops r st K s=ResO C n (Wr ((lkA C s.τ x).bind fun a=>(lkA C s.τ y).bind fun b=>Uo C.P .complex [t,u] [a,b])) dst ops r st K s:=by
 rw[XI,WL rfl rfl rfl];congr 2;simp only[QY,allV];cases lkA C s.τ x with
 | none=>rfl
 | some a=>cases lkA C s.τ y<;>rfl
end
theorem wrap_u8 {n:Int} (h0:0<=n) (h1:n<=255):IntKind.u8.wrap n=n:=by
 simp[IntKind.wrap,IntKind.bits,IntKind.signed];omega
end Go.Awp
namespace Go.Awp.R1
open Go Go.Awp Go.Proofs
def encS (l:List UInt8):V:=.str (bs l)
@[simp] theorem UE (l:List UInt8):(bs l).data.toList=l:=by simp[bs]
theorem Qd (l:List UInt8):(ByteArray.mk l.toArray)=bs l:=rfl
theorem uz {E:Amb} {a b:ByteArray} {cargs:List Value} (h:RepL E [.str a,.str b] cargs):cargs=[.string a,.string b]:=by
 cases h with|cons h t=>cases t with|cons h2 t=>cases t;cases h;cases h2;rfl
theorem str_int {E:Amb} {a:ByteArray} {k:IntKind} {n:Int} {cargs:List Value} (h:RepL E [.str a,.int k n] cargs):cargs=[.string a,.int k n]:=by
 cases h with|cons h t=>cases t with|cons h2 t=>cases t;cases h;cases h2;rfl
theorem Ua (s p:List UInt8):Ql TC 72 [encS s,encS p] (.bool (Lib.hasPrefix s p)):=by
 refine Yx ⟨_,Tryz.func72,rfl,by decide⟩ fun E cargs _ ha=>?_;rw[uz ha];refine (Tryz.strings_HasPrefix (bs s) (bs p) E.w).mono ?_;rintro e w' ⟨rfl,rfl⟩;refine⟨_,rfl,.refl _ _,fun E' _ _=>?_⟩;rw[UE,UE];exact .bool _
theorem wH (s:List UInt8) (c:Int):Ql TC 73 [encS s,.int .u8 c] (.int .i64 (Lib.indexByte s c.toNat.toUInt8)):=by
 refine Yx ⟨_,Tryz.func73,rfl,by decide⟩ fun E cargs _ ha=>?_;rw[str_int ha];refine (Tryz.strings_IndexByte (bs s) c E.w).mono ?_;rintro e w' ⟨rfl,rfl⟩;refine⟨_,rfl,.refl _ _,fun E' _ _=>?_⟩;rw[UE];exact .int _ _
theorem wK (s p:List UInt8) (hs:s.length<=9223372036854775807):Ql TC 129 [encS s,encS p] (.tup [encS (Lib.trimSuffix s p),.bool (Lib.hasSuffix s p)]):=by
 refine Yx ⟨_,Tryz.func129,rfl,by decide⟩ fun E cargs _ ha=>?_;rw[uz ha];refine (Tryz.strings_CutSuffix (bs s) (bs p) E.w (by simpa using hs)).mono ?_;rintro e w' ⟨rfl,rfl⟩;refine⟨_,rfl,.refl _ _,fun E' _ _=>?_⟩;rw[UE,UE];exact .tup (.cons (.str _) (.cons (.bool _) .nil))
theorem Vu (s:List UInt8) (c:Int) (hs:s.length<4611686018427387904):Ql TC 131 [encS s,.int .u8 c] (.int .i64 (Lib.lastIndexByte (bs s) c)):=by
 refine Yx ⟨_,Tryz.func131,rfl,by decide⟩ fun E cargs _ ha=>?_;rw[str_int ha];refine (Tryz.strings_LastIndexByte (bs s) c (by simpa using hs) E.w).mono ?_;rintro e w' ⟨rfl,rfl⟩;exact⟨_,rfl,.refl _ _,fun E' _ _=>.int _ _⟩
theorem uD {E:Amb} {k:IntKind}:∀ {zs:List Int} {cvs:List Value},RepL E (zs.map (V.int k)) cvs->cvs=zs.map (Value.int k)
 | [],_,h=>by cases h;rfl
 | z::zs,_,h=>by
   cases h with|cons a b=>
   cases a;rw[uD b];rfl
theorem uG {E:Amb} (hg:Xu TC E):Lib.TabIs Tryz.prog E.w "internal/strconv.uint64pow10" .u64 Lib.pow10Tab:=by
 obtain⟨arr,t,z,h1,h2⟩:=glob_var hg (g:=3) (c0:=.int .u64 1) (cs:=Lib.pow10Tab.tail.map (V.int .u64)) TCG3;unfold Lib.TabIs World.var?;rw[show Tryz.prog.globalNamed "internal/strconv.uint64pow10" = some 3 by kernel_rfl]
 simp only[Option.bind_some,h1];have:arr.toList=Lib.pow10Tab.map (Value.int .u64):=uD (k:=.u64) (zs:=Lib.pow10Tab) h2;rw[<- this]
theorem zL {w:World} {k:Nat} {os:Array Obj}:Go.RowKit.Below w.heap.size w (Go.Sort.grow (w.drewN k) os):=⟨rfl,rfl,rfl,by simp[Go.Sort.grow,World.drewN],fun j hj=>by simp[Go.Sort.grow,World.drewN,Array.getElem?_append_left hj]⟩
theorem Qhz (n:Int) (h0:-9223372036854775808<=n) (h1:n<=9223372036854775807):Ql TC 155 [.int .i64 n,.int .i64 10] (encS (Lib.itoa n)):=by
 refine Yx ⟨_,Tryz.func155,rfl,by decide⟩ fun E cargs hg ha=>?_;have:cargs=[.int .i64 n,.int .i64 10]:=by cases ha with|cons h t=>cases t with|cons h2 t=>cases t;cases h;cases h2;rfl
 rw[this];refine (Tryz.strconv_FormatInt_10 n h0 h1 E.w (uG hg)).mono ?_;rintro e w' ⟨rfl,k,os,rfl⟩;exact⟨_,rfl,zL,fun E' _ _=>.str _⟩
theorem Itoa_ok (n:Int) (h0:-9223372036854775808<=n) (h1:n<=9223372036854775807):Ql TC 69 [.int .i64 n] (encS (Lib.itoa n)):=by
 refine Yx ⟨_,Tryz.func69,rfl,by decide⟩ fun E cargs hg ha=>?_;have:cargs=[.int .i64 n]:=by cases ha with|cons h t=>cases t;cases h;rfl
 rw[this];refine (Tryz.strconv_Itoa n h0 h1 E.w (uG hg)).mono ?_;rintro e w' ⟨rfl,k,os,rfl⟩;exact⟨_,rfl,zL,fun E' _ _=>.str _⟩
open Go.Proofs.YtnielafbkgpgjaaGreatDoor
theorem jT {Q:Nat->V->Prop}:∀ {G:List (Nat × V)},(∀ x∈G,Q x.1 x.2)->∀ g v,G.lookup g=some v->Q g v
 | [],_,g,v,h=>by cases h
 | (a,b)::r,hx,g,v,h=>by
   rw[List.lookup_cons] at h;split at h
   ·rename_i he;cases h;have:g=a:=by simpa using he
    subst this;exact hx _ List.mem_cons_self
   ·exact jT (fun x hm=>hx x (List.mem_cons_of_mem _ hm)) g v h
theorem okG {v:V} (h:v.cells.all V.scalar=true):v.ok:=fun x hx=>List.all_eq_true.1 h x hx
abbrev Qxw:List (String × DataW Unit):=[("math/bits.deBruijn32tab",Rows.laid_math_bits_deBruijn32tab),("math/bits.deBruijn64tab",Rows.laid_math_bits_deBruijn64tab),("internal/strconv.uint64pow10",Rows.laid_internal_strconv_uint64pow10),("strconv.ErrRange",Rows.laid_strconv_ErrRange),("strconv.ErrSyntax",Rows.laid_strconv_ErrSyntax),("braidwork/parse.signs",Rows.laid_braidwork_parse_signs),("braidwork/parse.levels",Rows.laid_braidwork_parse_levels),("braidwork/braidworklaw05.words",Rows.laid_braidwork_braidworklaw05_words),("braidwork/braidworklaw05.sorts",Rows.laid_braidwork_braidworklaw05_sorts)]
def wz (P:Program) (g:Nat) (d:DataW Unit):Option (List V):=(P.globals[g]?).bind fun x=>dRep P 4 x.type d
theorem qy {w:World} {n:String} {g:Nat} {d:DataW Unit} {v:V} (hg:Tryz.prog.globalNamed n=some g) (hd:wz Tryz.prog g d=some v.cells) (hok:v.ok) (h0:0<v.cells.length)
 (h:∃ g t cs fuel p,Tryz.prog.globalNamed n=some g/\(Tryz.prog.globals[g]?).map (·.type)=some t/\w.var? Tryz.prog n=some cs/\DataW.trod (fun _=>()) Tryz.prog w 0 (fun _=>true) false fuel t cs.toList=some (d,p)):
 Rep (Amb.start w) (.rptr v) (.pointer (some ⟨g,0,none⟩))/\(Amb.start w).I g v.cells.length/\(Amb.start w).w.cell? ⟨g,v.cells.length,none⟩=none:=by
 obtain⟨g',t,cs,fuel,p,h1,h2,h3,h4⟩:=h;obtain rfl:=Option.some.inj (hg.symm.trans h1);unfold wz at hd;obtain⟨x,hx,hd⟩:=Option.bind_eq_some_iff.1 hd;rw[hx] at h2;cases h2;exact glob_of h1 h3 (Qcz _ _ _ _ hd _ _ _ h4) hok h0
theorem row293 (u:TypeId) (h:Tryz.prog.typeName? 3 u=some "*errors.errorString"):u=293:=
 have star: "*" ++ "errors.errorString" = "*errors.errorString":=by decide
 typeName_ptr_named (nm:= "errors.errorString") (by rw[star];kernel_rfl) (by kernel_rfl) (by decide) u (by rw[star];exact h)
theorem gn9:Tryz.prog.globalNamed "math/bits.deBruijn32tab" = some 9:=by kernel_rfl
theorem dg9:wz Tryz.prog 9 Rows.laid_math_bits_deBruijn32tab=some Weq.cells:=by kernel_rfl
theorem gn10:Tryz.prog.globalNamed "math/bits.deBruijn64tab" = some 10:=by kernel_rfl
theorem dg10:wz Tryz.prog 10 Rows.laid_math_bits_deBruijn64tab=some Wdz.cells:=by kernel_rfl
theorem gn3:Tryz.prog.globalNamed "internal/strconv.uint64pow10" = some 3:=by kernel_rfl
theorem dg3:wz Tryz.prog 3 Rows.laid_internal_strconv_uint64pow10=some yX.cells:=by kernel_rfl
theorem gn7:Tryz.prog.globalNamed "strconv.ErrRange" = some 7:=by kernel_rfl
theorem gn6:Tryz.prog.globalNamed "strconv.ErrSyntax" = some 6:=by kernel_rfl
theorem gn8:Tryz.prog.globalNamed "braidwork/parse.signs" = some 8:=by kernel_rfl
theorem dg8:wz Tryz.prog 8 Rows.laid_braidwork_parse_signs=some vg.cells:=by kernel_rfl
theorem gn5:Tryz.prog.globalNamed "braidwork/parse.levels" = some 5:=by kernel_rfl
theorem dg5:wz Tryz.prog 5 Rows.laid_braidwork_parse_levels=some we.cells:=by kernel_rfl
theorem gn1:Tryz.prog.globalNamed "braidwork/braidworklaw05.words" = some 1:=by kernel_rfl
theorem dg1:wz Tryz.prog 1 Rows.laid_braidwork_braidworklaw05_words=some zb.cells:=by kernel_rfl
theorem gn0:Tryz.prog.globalNamed "braidwork/braidworklaw05.sorts" = some 0:=by kernel_rfl
theorem dg0:wz Tryz.prog 0 Rows.laid_braidwork_braidworklaw05_sorts=some zd.cells:=by kernel_rfl
theorem sent {w:World} {n:String} {text:List UInt8} {r:List (String × DataW Unit)} {g:Nat} (h:laidMet Tryz.prog ((n,.iface "*errors.errorString" (.ptr (.agg [.lit (.string text)])))::r) w) (hg:Tryz.prog.globalNamed n=some g) (ht:(Tryz.prog.globals[g]?).map (·.type)=some 237):
 Rep (Amb.start w) (.rptr (.iface 293 .any)) (.pointer (some ⟨g,0,none⟩))/\(Amb.start w).I g 1/\(Amb.start w).w.cell? ⟨g,1,none⟩=none:=by
 obtain⟨a,s,hv,_⟩:=laid_sentinel h hg ht Tryz.underlying237 row293 Tryz.underlying293 Tryz.underlying295 rfl rfl Tryz.underlying9 (by kernel_rfl) (by kernel_rfl);exact glob_of (v:=.iface 293 .any) hg hv (.cons (.iface (.any _)) .nil) (by intro x hx;simp[V.cells] at hx;subst hx;rfl) (by decide)
theorem glob_rel {w:World} (h0:laidMetH Tryz.prog Qxw w):Xu TC (Amb.start w):=by
 rw[MakeChecks.laidMetH_plain _ _ _ (by kernel_rfl)] at h0;have h:=h0;obtain⟨ps,⟨g0,t0,cs0,f0,p0,q0,hg0,ht0,hv0,hd0,⟨g1,t1,cs1,f1,p1,q1,hg1,ht1,hv1,hd1,⟨g2,t2,cs2,f2,p2,q2,hg2,ht2,hv2,hd2,⟨g3,t3,cs3,f3,p3,q3,hg3,ht3,hv3,hd3,⟨g4,t4,cs4,f4,p4,q4,hg4,ht4,hv4,hd4,⟨g5,t5,cs5,f5,p5,q5,hg5,ht5,hv5,hd5,⟨g6,t6,cs6,f6,p6,q6,hg6,ht6,hv6,hd6,⟨g7,t7,cs7,f7,p7,q7,hg7,ht7,hv7,hd7,⟨g8,t8,cs8,f8,p8,q8,hg8,ht8,hv8,hd8,_,_⟩,_⟩,_⟩,_⟩,_⟩,_⟩,_⟩,_⟩,_⟩,_,_⟩:=h;have sr:=sent h0.tail.tail.tail gn7 (by kernel_rfl);have ss:=sent h0.tail.tail.tail.tail gn6 (by kernel_rfl);intro g v hgv;refine jT (Q:=fun g v=>Rep (Amb.start w) (.rptr v) (.pointer (some ⟨g,0,none⟩))/\(Amb.start w).I g v.cells.length/\(Amb.start w).w.cell? ⟨g,v.cells.length,none⟩=none) (G:=gAll) ?_ g v hgv;intro x hx;simp only[gAll,List.mem_cons,List.not_mem_nil,or_false] at hx;rcases hx with rfl|rfl|rfl|rfl|rfl|rfl|rfl|rfl|rfl
 ·exact qy gn0 dg0 (by show V.ok _;unfold zd;exact okG (by decide)) (by decide) ⟨_,_,_,_,_,hg8,ht8,hv8,hd8⟩
 ·exact qy gn1 dg1 (by show V.ok _;unfold zb;exact okG (by decide)) (by decide) ⟨_,_,_,_,_,hg7,ht7,hv7,hd7⟩
 ·exact qy gn3 dg3 (by show V.ok _;unfold yX;exact okG (by decide)) (by decide) ⟨_,_,_,_,_,hg2,ht2,hv2,hd2⟩
 ·exact qy gn5 dg5 (by show V.ok _;unfold we;exact okG (by decide)) (by decide) ⟨_,_,_,_,_,hg6,ht6,hv6,hd6⟩
 ·exact ss
 ·exact sr
 ·exact qy gn8 dg8 (by show V.ok _;unfold vg;exact okG (by decide)) (by decide) ⟨_,_,_,_,_,hg5,ht5,hv5,hd5⟩
 ·exact qy gn9 dg9 (by show V.ok _;unfold Weq;exact okG (by decide)) (by decide) ⟨_,_,_,_,_,hg0,ht0,hv0,hd0⟩
 ·exact qy gn10 dg10 (by show V.ok _;unfold Wdz;exact okG (by decide)) (by decide) ⟨_,_,_,_,_,hg1,ht1,hv1,hd1⟩
end Go.Awp.R1
namespace Go.Awp.Sp
abbrev Bs:=List UInt8
structure Cx where
 re:Int
 im:Int
 deriving DecidableEq,Inhabited
structure Tok where
 kind:Int
 text:Bs
 num:Cx
 place:Int
 deriving DecidableEq,Inhabited
inductive Ex where
 | mk (op:Bs) (num:Cx) (name:Bs) (parts:List Ex)
 deriving Inhabited
inductive St where
 | mk (kind:Int) (reg name:Bs) (indexed:Bool) (exprs:List Ex) (body els:List St) (place:Int)
 deriving Inhabited
structure Dc where
 sort:Int
 name:Bs
 num:Cx
 body:List St
 place:Int
 deriving Inhabited
def Ex.op:Ex->Bs|.mk o _ _ _=>o
def Ex.num:Ex->Cx|.mk _ n _ _=>n
def Ex.name:Ex->Bs|.mk _ _ n _=>n
def Ex.parts:Ex->List Ex|.mk _ _ _ p=>p
def St.kind:St->Int|.mk k _ _ _ _ _ _ _=>k
def St.reg:St->Bs|.mk _ r _ _ _ _ _ _=>r
def St.name:St->Bs|.mk _ _ n _ _ _ _ _=>n
def St.indexed:St->Bool|.mk _ _ _ i _ _ _ _=>i
def St.exprs:St->List Ex|.mk _ _ _ _ e _ _ _=>e
def St.body:St->List St|.mk _ _ _ _ _ b _ _=>b
def St.els:St->List St|.mk _ _ _ _ _ _ b _=>b
def St.place:St->Int|.mk _ _ _ _ _ _ _ p=>p
def Qy:List Bs:=[[],[108,111,97,100],[115,116,111,114,101],[97,100,100],[115,119,97,112],[99,97,115],[108,111,99,107],[117,110,108,111,99,107],[116,114,121],[119,97,105,116],[112,111,115,116],[115,112,97,119,110],[106,111,105,110],[97,115,115,101,114,116],[97,115,115,117,109,101],[105,102],[119,104,105,108,101]]
def QW:List Bs:=[[99,101,108,108],[97,114,114,97,121],[109,117,116,101,120],[115,101,109],[98,117,100,103,101,116],[116,104,114,101,97,100]]
def YW:Bs:=[101,108,115,101]
def wReg:Bs:=[114,101,103]
def wNeg:Bs:=[110,101,103]
def wConj:Bs:=[99,111,110,106]
def wNot:Bs:=[110,111,116]
def wNorm:Bs:=[110,111,114,109]
def wBudget:Bs:=[98,117,100,103,101,116]
def Wh (k:Int):Bool:=k<=1||(3<=k&&k<=5)||k == 8
def QR (k:Int):Nat:=if k=0∨k=2∨k=3∨k=4∨k=13∨k=14∨k=15∨k=16 then 1 else if k=5 then 2 else 0
def Qz (k:Int):Bool:=0<k&&k<13
def Xt (k:Int):Bool:=0<k&&k<6
def QX (c:UInt8):Bool:=(97<=c&&c<=122)||(65<=c&&c<=90)||c == 95
def Qs (c:UInt8):Bool:=48<=c&&c<=57
def QU (c:UInt8):Bool:=QX c||Qs c
def signs:Bs:=[40,41,123,125,91,93,59,44,61,33,60,43,45,42,126,35]
def YG (c:UInt8):Bool:=signs.contains c
def Qt (ds:Bs):Nat:=ds.foldl (fun n c=>10*n+(c.toNat - 48)) 0
def numOf (ds:Bs) (im:Bool):Option Cx:=
 if 7<ds.length∨(1<ds.length∨im=true)/\ds.head? = some 48 then none else
 if 1048576<Qt ds then none else some (if im then ⟨0,Qt ds⟩ else ⟨Qt ds,0⟩)
abbrev Er:=Int × Int
def WE:Int:=1
def UZ:Int:=2
def errWord:Int:=5
def Vr:Int:=6
def QCz:Int:=7
def wv:Int:=8
def Jh:Int:=9
def qa:Int:=10
def WR (l:Bs):Nat:=(l.takeWhile (· != 10)).length
def XZ (p:Nat) (ds:Bs) (im:Bool) (r:Bs):Except Er (Tok × Nat):=
 if r.head?.any QU then .error (p,WE) else
 match numOf ds im with
 | none=>.error (p,Vr)
 | some z=>.ok (⟨2,if im then ds++[105] else ds,z,p⟩,ds.length+(if im then 1 else 0))
def Wx (p:Nat) (l:Bs):Except Er (Tok × Nat):=
 match l with
 | []=>.error (p,WE)
 | c::_=>
   if QX c then let w:=l.takeWhile QU;.ok (⟨1,w,⟨0,0⟩,p⟩,w.length)
   else if Qs c then
    let ds:=l.takeWhile Qs
    let r:=l.drop ds.length
    let im:=r.head? == some 105
    XZ p ds im (if im then r.tail else r)
   else if YG c then
    let n:=if (c == 61||c == 33)&&l.tail.head? == some 61 then 2 else 1
    .ok (⟨3,l.take n,⟨0,0⟩,p⟩,n)
   else .error (p,WE)
def lexL:Nat->Nat->Bs->Except Er (List Tok)
 | 0,p,_=>.error (p,-1)
 | _+1,p,[]=>.ok [⟨0,[],⟨0,0⟩,p⟩]
 | f+1,p,c::r=>
   if c == 32||c == 10||c == 9 then lexL f (p+1) r
   else if c == 47&&r.head? == some 47 then lexL f (p+WR (c::r)) ((c::r).drop (WR (c::r)))
   else match Wx p (c::r) with
    | .error e=>.error e
    | .ok (t,n)=>match lexL f (p+n) ((c::r).drop n) with
      | .error e=>.error e
      | .ok ts=>.ok (t::ts)
def lexS (s:Bs):Except Er (List Tok):=lexL (s.length+1) 0 s
abbrev PR (α:Type):=Except Er (α × List Tok)
def hd (l:List Tok):Tok:=l.headD default
def Tok.isB (t:Tok) (s:Bs):Bool:=(t.kind == 1||t.kind == 3)&&t.text == s
def QZ (s:Bs) (l:List Tok):PR Unit:=if (hd l).isB s then .ok ((),l.tail) else .error ((hd l).place,WE)
def Wl (s:Bs):Bool:=Qy.contains s||QW.contains s||s == YW
def WI (l:List Tok):PR Bs:=if (hd l).kind=1/\Wl (hd l).text=false then .ok ((hd l).text,l.tail) else .error ((hd l).place,WE)
def Yk (t:Tok):Option Bs:=
 if t.isB [45] then some wNeg else if t.isB [126] then some wConj else if t.isB [33] then some wNot else if t.isB [35] then some wNorm else none
def QE:Nat->List Bs
 | 0=>[[61,61],[33,61],[60]]
 | 1=>[[43],[45]]
 | 2=>[[42]]
 | _=>[]
def Zp (t:Tok) (l:List Bs):Option Bs:=l.find? t.isB
def zero:Cx:=⟨0,0⟩
mutual
def exE:Nat->Nat->List Tok->PR Ex
 | 0,_,l=>.error ((hd l).place,-1)
 | f+1,k,l=>
   if k<3 then
    match exE f (k+1) l with
    | .error e=>.error e
    | .ok (e,l)=>chE f k e l
   else match Yk (hd l) with
    | some op=>match exE f 3 l.tail with
      | .error e=>.error e
      | .ok (e,l)=>.ok (.mk op zero [] [e],l)
    | none=>
      if (hd l).kind=2 then .ok (.mk [] (hd l).num [] [],l.tail)
      else if (hd l).isB [40] then
       match exE f 0 l.tail with
       | .error e=>.error e
       | .ok (e,l)=>match QZ [41] l with
         | .error e=>.error e
         | .ok (_,l)=>.ok (e,l)
      else match WI l with
       | .error e=>.error e
       | .ok (n,l)=>.ok (.mk wReg zero n [],l)
def chE:Nat->Nat->Ex->List Tok->PR Ex
 | 0,_,_,l=>.error ((hd l).place,-1)
 | f+1,k,e,l=>match Zp (hd l) (QE k) with
   | none=>.ok (e,l)
   | some op=>match exE f (k+1) l.tail with
     | .error e=>.error e
     | .ok (e2,l2)=>if k=0 then .ok (.mk op zero [] [e,e2],l2) else chE f k (.mk op zero [] [e,e2]) l2
end
mutual
def WA:Ex->Nat
 | .mk _ _ _ ps=>Xv ps+1
def Xv:List Ex->Nat
 | []=>0
 | e::r=>max (WA e) (Xv r)
end
def Ww (f:Nat) (l:List Tok):PR Ex:=
 match exE f 0 l with
 | .error e=>.error e
 | .ok (e,r)=>if 12<WA e then .error ((hd l).place,qa) else .ok (e,r)
def kindOf (t:Tok):Nat:=((List.range 17).find? fun k=>k != 0&&t.isB (Qy.getD k [])).getD 0
def wholes (f:Nat) (comma:Bool):Nat->List Tok->PR (List Ex)
 | 0,l=>.ok ([],l)
 | n+1,l=>
   match (if comma then QZ [44] l else .ok ((),l)) with
   | .error e=>.error e
   | .ok (_,l)=>match Ww f l with
     | .error e=>.error e
     | .ok (x,l)=>match wholes f true n l with
       | .error e=>.error e
       | .ok (xs,l)=>.ok (x::xs,l)
def Ut (f:Nat) (l:List Tok):PR (Int × Bs × Bs × Bool × List Ex):=
 let k:=kindOf (hd l)
 let first:PR (Nat × Bs):=
  if k=0 then
   match WI l with
   | .error e=>.error e
   | .ok (reg,l)=>match QZ [61] l with
     | .error e=>.error e
     | .ok (_,l)=>
       let k:=kindOf (hd l)
       let l:=if k=0 then l else l.tail
       if Wh k then .ok ((k,reg),l) else .error ((hd l).place,Jh)
  else if Wh k then .error ((hd l.tail).place,Jh) else .ok ((k,[]),l.tail)
 match first with
 | .error e=>.error e
 | .ok ((k,reg),l)=>
   let second:PR (Bs × Bool × List Ex):=
    if Qz k then
     match WI l with
     | .error e=>.error e
     | .ok (name,l)=>
       if Xt k&&(hd l).isB [91] then
        match Ww f l.tail with
        | .error e=>.error e
        | .ok (x,l)=>match QZ [93] l with
          | .error e=>.error e
          | .ok (_,l)=>.ok ((name,true,[x]),l)
       else .ok ((name,false,[]),l)
    else .ok (([],false,[]),l)
   match second with
   | .error e=>.error e
   | .ok ((name,ix,xs),l)=>match wholes f (Qz k) (QR k) l with
     | .error e=>.error e
     | .ok (ys,l)=>.ok (((k:Int),reg,name,ix,xs++ys),l)
mutual
def QT:Nat->Nat->List Tok->PR (List St)
 | 0,_,l=>.error ((hd l).place,-1)
 | f+1,deep,l=>
   match QZ [123] l with
   | .error e=>.error e
   | .ok (_,r)=>if deep=12 then .error ((hd l).place,qa) else Xw f (deep+1) r
def Xw:Nat->Nat->List Tok->PR (List St)
 | 0,_,l=>.error ((hd l).place,-1)
 | f+1,deep,l=>
   if (hd l).isB [125] then .ok ([],l.tail) else
   match Xl f deep l with
   | .error e=>.error e
   | .ok (s,l)=>match Xw f deep l with
     | .error e=>.error e
     | .ok (ss,l)=>.ok (s::ss,l)
def Xl:Nat->Nat->List Tok->PR St
 | 0,_,l=>.error ((hd l).place,-1)
 | f+1,deep,l=>
   match Ut f l with
   | .error e=>.error e
   | .ok ((k,reg,name,ix,xs),r)=>
     if k<15 then
      match QZ [59] r with
      | .error e=>.error e
      | .ok (_,r)=>.ok (.mk k reg name ix xs [] [] (hd l).place,r)
     else match QT f deep r with
      | .error e=>.error e
      | .ok (body,r)=>
        if k=15/\(hd r).isB YW=true then
         match QT f deep r.tail with
         | .error e=>.error e
         | .ok (els,r)=>.ok (.mk k reg name ix xs body els (hd l).place,r)
        else .ok (.mk k reg name ix xs body [] (hd l).place,r)
end
def Wn (l:List Tok):PR Cx:=
 let neg:=(hd l).isB [45]
 let l:=if neg then l.tail else l
 if (hd l).kind≠2 then .error ((hd l).place,WE) else
 let c:Cx:=if neg then ⟨0 - (hd l).num.re,0 - (hd l).num.im⟩ else (hd l).num
 let l:=l.tail
 if c.im≠0 then .ok (c,l) else
 let minus:=(hd l).isB [45]
 if minus=false/\(hd l).isB [43]=false then .ok (c,l) else
 let l:=l.tail
 if (hd l).kind≠2∨(hd l).num.im=0 then .error ((hd l).place,WE) else
 .ok (⟨c.re,if minus then 0 - (hd l).num.im else (hd l).num.im⟩,l.tail)
def Wz (t:Tok):Nat:=((List.range 6).find? fun k=>t.isB (QW.getD k [])).getD 6
def XU (f:Nat) (l:List Tok):PR Dc:=
 let s:=Wz (hd l)
 if s=6 then .error ((hd l).place,errWord) else
 let named:PR Bs:=if s=4 then .ok ([],l.tail) else WI l.tail
 match named with
 | .error e=>.error e
 | .ok (name,r)=>
   if s=5 then
    match QT f 0 r with
    | .error e=>.error e
    | .ok (b,r)=>.ok (⟨5,name,zero,b,(hd l).place⟩,r)
   else
    let num:PR Cx:=if s=2 then .ok (zero,r) else Wn r
    match num with
    | .error e=>.error e
    | .ok (z,r)=>match QZ [59] r with
      | .error e=>.error e
      | .ok (_,r)=>.ok (⟨s,name,z,[],(hd l).place⟩,r)
def Xj:Nat->List Tok->Except Er (List Dc)
 | 0,l=>.error ((hd l).place,-1)
 | f+1,l=>if (hd l).kind=0 then .ok [] else
   match XU f l with
   | .error e=>.error e
   | .ok (d,r)=>match Xj f r with
     | .error e=>.error e
     | .ok ds=>.ok (d::ds)
def YI (s:Bs):Except Er (List Dc):=
 match lexS s with
 | .error e=>.error e
 | .ok l=>Xj (8*l.length+8) l
end Go.Awp.Sp
namespace Go.Awp.R1
open Go Go.Awp Go.Proofs Go.Awp.Sp
def encC (c:UInt8):V:=.int .u8 c.toNat
attribute [simp] encC encS
def Wy (n:Int):Bool:=(decide (n ≥ 97)&&decide (n<=122))||(decide (n ≥ 65)&&decide (n<=90))||(n == 95)
def Xa (n:Int):Bool:=decide (n ≥ 48)&&decide (n<=57)
def Qmz (n:Int):Bool:=[40,41,123,125,91,93,59,44,61,33,60,43,45,42,126,35].contains n
theorem zo (p:UInt8->Bool) (h:∀ n:Fin 256,p (UInt8.ofNat n.1)=true) (c:UInt8):p c=true:=by
 have:=h ⟨c.toNat,c.toNat_lt⟩;simpa using this
theorem jZ (c:UInt8):Wy c.toNat=QX c:=by
 have:=zo (fun c=>Wy c.toNat == QX c) (by decide +kernel) c;simpa using this
theorem XY (c:UInt8):Xa c.toNat=Qs c:=by
 have:=zo (fun c=>Xa c.toNat == Qs c) (by decide +kernel) c;simpa using this
theorem signN_eq (c:UInt8):Qmz c.toNat=YG c:=by
 have:=zo (fun c=>Qmz c.toNat == YG c) (by decide +kernel) c;simpa using this
theorem Wbq (n:Int):Ql TC 81 [.int .u8 n] (.bool (Wy n)):=by
 refine ent Tryz.func81 fun L K hL hR hN hP=>?_;simp;have fin:∀ s b,Qf TC.P s [.tmp 2]=some [.bool b]->b=Wy n->K .ret s:=fun s b h e=>hR _ (.pure h (by rw[e];exact .refl _));by_cases h1:97<=n<;>simp[h1]
 ·by_cases h2:n<=122<;>simp[h2]
  ·exact fin _ _ rfl (by simp[Wy,h1,h2])
  ·by_cases h3:65<=n<;>simp[h3]
   ·by_cases h4:n<=90<;>simp[h4]
    ·exact fin _ _ rfl (by simp[Wy, *])
    ·exact fin _ _ rfl (by simp[Wy, *])
   ·exact fin _ _ rfl (by simp[Wy, *])
 ·by_cases h3:65<=n<;>simp[h3]
  ·by_cases h4:n<=90<;>simp[h4]
   ·exact fin _ _ rfl (by simp[Wy, *])
   ·exact fin _ _ rfl (by simp[Wy, *])
  ·exact fin _ _ rfl (by simp[Wy, *])
theorem YE (c:UInt8):Ql TC 81 [encC c] (.bool (QX c)):=by rw[<- jZ];exact Wbq _
theorem digitN_ok (n:Int):Ql TC 82 [.int .u8 n] (.bool (Xa n)):=by
 refine ent Tryz.func82 fun L K hL hR hN hP=>?_;simp;have fin:∀ s b,Qf TC.P s [.tmp 2]=some [.bool b]->b=Xa n->K .ret s:=fun s b h e=>hR _ (.pure h (by rw[e];exact .refl _));by_cases h1:48<=n<;>simp[h1]
 ·exact fin _ _ rfl (by simp[Xa, *])
 ·exact fin _ _ rfl (by simp[Xa, *])
theorem YM (c:UInt8):Ql TC 82 [encC c] (.bool (Qs c)):=by rw[<- XY];exact digitN_ok _
theorem oneN_ok (n:Int):Ql TC 83 [.int .u8 n] (.bool (Qmz n)):=by
 refine ent Tryz.func83 fun L K hL hR hN hP=>?_;simp
 iterate 15
  refine Qv.mk (fun h=>?_) (fun h=>?_)
  ·simp[h];refine hR _ (.pure rfl ?_);have:=eq_of_beq h;subst this;exact .refl _
  simp
 refine Qv.mk (fun h=>?_) (fun h=>?_)
 ·simp;refine hR _ (.pure rfl ?_);have:=eq_of_beq h;subst this;exact .refl _
 ·simp;refine hR _ (.pure rfl ?_);have e:Qmz n=false:=by simp_all [Qmz]
  rw[e];exact .refl _
theorem wT (c:UInt8):Ql TC 83 [encC c] (.bool (YG c)):=by rw[<- signN_eq];exact oneN_ok _
theorem tw_stop {α:Type} {p:α->Bool}:∀ {l:List α} {k:Nat} (hk:k<l.length),(∀ i (h:i<k),p (l[i]'(by omega))=true)->p l[k]=false->(l.takeWhile p).length=k
 | [],_,hk,_,_=>by simp at hk
 | x::l,0,_,_,h=>by simp at h;simp[h]
 | x::l,k+1,hk,ha,h=>by
   have h0:p x=true:=ha 0 (by omega);simp only[List.takeWhile_cons,h0,if_true,List.length_cons];rw[tw_stop (l:=l) (k:=k) (by simpa using hk) (fun i hi=>by have:=ha (i+1) (by omega);simpa using this) (by simpa using h)]
theorem tw_all {α:Type} {p:α->Bool} {l:List α} (h:∀ i (h:i<l.length),p l[i]=true):l.takeWhile p=l:=by
 induction l with
 | nil=>rfl
 | cons x l ih=>
   have h0:p x=true:=h 0 (by simp);rw[List.takeWhile_cons,if_pos h0,ih fun i hi=>by have:=h (i+1) (by simpa using hi);simpa using this]
theorem wordN_ok (n:Int) (first:Bool):Ql TC 113 [.int .u8 n,.bool first] (.bool (Wy n||(!first&&Xa n))):=by
 refine ent Tryz.func113 fun L K hL hR hN hP=>?_;have fin:∀ s b,Qf TC.P s [.tmp 4]=some [.bool b]->b=(Wy n||(!first&&Xa n))->K .ret s:=fun s b h e=>hR _ (.pure h (by rw[e];exact .refl _));simp;have tail:Wy n=false->∀ b,(!first&&Xa n)=b->b=(Wy n||(!first&&Xa n)):=fun h b e=>by rw[h,<- e];rfl
 by_cases h1:97<=n<;>simp[h1]
 ·by_cases h2:n<=122<;>simp[h2]
  ·exact fin _ _ rfl (by simp[Wy,h1,h2])
  ·have h3:65<=n:=by omega
   have h4:¬ n<=90:=by omega
   have h5:(n == 95)=false:=by simp;omega
   have hl:Wy n=false:=by simp only[Wy,h5];simp[h2,h4]
   have hd:Xa n=false:=by simp[Xa];omega
   have h6:48<=n:=by omega
   have h7:¬ n<=57:=by omega
   simp[h3,h4,h5];cases first<;>simp[h6,h7]
   ·exact fin _ _ rfl (by simp[hl,hd])
   ·exact fin _ _ rfl (by simp[hl,hd])
 ·by_cases h3:65<=n<;>simp[h3]
  ·by_cases h4:n<=90<;>simp[h4]
   ·exact fin _ _ rfl (by simp[Wy,h3,h4])
   ·have hd:Xa n=false:=by simp[Xa];omega
    have h6:48<=n:=by omega
    have h7:¬ n<=57:=by omega
    rcases h5:(n == 95)<;>simp
    ·have hl:Wy n=false:=by simp only[Wy,h5];simp[h1,h4]
     cases first<;>simp[h6,h7]
     ·exact fin _ _ rfl (by simp[hl,hd])
     ·exact fin _ _ rfl (by simp[hl,hd])
    ·exact fin _ _ rfl (by simp[Wy,h5])
  ·have h5:(n == 95)=false:=by simp;omega
   have hl:Wy n=false:=by simp only[Wy,h5];simp[h1,h3]
   simp[h5];cases first<;>simp
   ·by_cases h6:48<=n<;>simp[h6]
    ·exact fin _ _ rfl (by simp[hl,Xa,h6])
    ·exact fin _ _ rfl (by simp[hl,Xa,h6])
   ·exact fin _ _ rfl (by simp[hl])
theorem jd (c:UInt8) (first:Bool):Ql TC 113 [encC c,.bool first] (.bool (if first=true then QX c else QU c)):=by
 have:=wordN_ok c.toNat first
 rw[jZ,XY] at this;cases first
 ·exact this
 ·simpa using this
theorem long_ok (l:List UInt8) (dg:Bool) (hl:l.length<=1000000000000):Ql TC 114 [encS l,.bool dg] (.int .i64 ((l.takeWhile (if dg=true then Qs else QU)).length:Nat)):=by
 refine ent Tryz.func114 fun L K hL hR hN hP=>?_;simp;refine QB (α:=Nat) (fun k=>k<=l.length/\∀ i (h:i<l.length),i<k->(if dg=true then Qs else QU) l[i]=true)
  (fun k=>[(0,encS l),(1,.bool dg),(7,.int .i64 l.length),(8,.int .i64 k)]) (fun _=>[]) (fun k=>l.length - k) 0 (by simp) twk ?_
 rintro k L1 K1 ⟨hk,hpre⟩ hL1 - hnext hex hrt - -;simp;refine Qv.mk (fun hb=>?_) fun hb=>?_
 ·have hlt:k<l.length:=by simpa using hb
  have hx:l[k]? = some l[k]:=List.getElem?_eq_getElem hlt;have go_on:∀ s',(if dg=true then Qs else QU) l[k]=true->Turn TC { s' with lv:=L,nx:=0 } ⟨[(0,encS l),(1,.bool dg),(7,.int .i64 l.length),(8,.int .i64 (k+1:Nat))],[],39,L,0⟩->K1 .normal s':=fun s' h1 h2=>
   hnext _ (k+1) ⟨by omega,fun i hi hik=>by
    by_cases e:i=k
    ·subst e;exact h1
    ·exact hpre i hi (by omega)⟩ (by omega) h2
  have stop:∀ s',(if dg=true then Qs else QU) l[k]=false->Qf TC.P { s' with lv:=L,nx:=0 } [.tmp 4]=some [.int .i64 k]->K1 .ret s':=fun s' h1 h2=>by
   refine hrt _ (hR _ (.pure h2 ?_));rw[tw_stop hlt (fun i hi=>hpre i (by omega) hi) h1];exact .refl _
  generalize l[k]=c at hx go_on stop;cases dg
  ·simp[hx]
   skip
   have:=jd c false;refine Qc this ?_;rcases hw:QU c<;>simp
   ·exact stop _ (by simp[hw]) rfl
   ·simp[wr1 k (by omega)];exact go_on _ (by simp[hw]) twk
  ·simp[hx];by_cases h1:(c.toNat:Int)<48
   ·simp[h1];exact stop _ (by simp[<- XY,Xa];omega) rfl
   ·by_cases h2:(57:Int)<c.toNat
    ·simp[hx,h1,h2];exact stop _ (by simp[<- XY,Xa];omega) rfl
    ·simp[hx,h1,h2,wr1 k (by omega)];exact go_on _ (by simp[<- XY,Xa];omega) twk
 ·refine hex _ _ ?_;have hkn:¬ k<l.length:=by simpa using hb
  simp;refine hR _ (.pure rfl ?_);rw[tw_all (p:=if dg=true then Qs else QU) (fun i hi=>hpre i hi (by omega))];exact .refl _
end Go.Awp.R1
