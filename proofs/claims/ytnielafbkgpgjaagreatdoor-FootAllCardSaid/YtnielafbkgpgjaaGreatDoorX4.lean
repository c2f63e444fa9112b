/- AWP, text 10: append. -/
import Derived.Test.YtnielafbkgpgjaaGreatDoorX3
set_option linter.all false
set_option maxRecDepth 100000
set_option maxHeartbeats 8000000
namespace Go.Awp
open Go
section
variable {P:Program}
structure Src (P:Program) (w:World) (size:Nat) (x:Value) (m:Nat) (news:List Value):Prop where
 len:(Builtin.lenOf x).run P w = .ok m w
 first:∀ w':World,w'.heap=w.heap->(Builtin.firstCells size m x).run P w' = .ok news.toArray w'
 size:news.length=m*size
 one:∀ u∈news,u.oneCell' = true
theorem QHz {w:World} {t tx ty e:TypeId} {i:TypeInfo} {z:Value} {d:TypeDesc} {hv x:Value} {n m:Nat} {xs news:List Value}
 (ht:P.underlying t=some (.slice e)) (htx:P.underlying tx=some d) (hd:(∃ e',d = .slice e')∨d = .string) (hi:P.info? e=some i) (hz:i.zero=some z) (hzs:z.cells.size=i.size)
 (hown:Owns w e i.size hv n xs) (hx:Src P w i.size x m news) (h63:n+m<=maxLen) (hbytes:(n+m)*i.bytes<=140737488355328):
 ∃ hv' w',(Builtin.append_ #[t,tx] ty #[hv,x]).run P w = .ok hv' w'/\Owns w' e i.size hv' (n+m) (xs++news)/\w'.os=w.os/\w'.tape=w.tape/\w'.output=w.output/\
  w.heap.size<=w'.heap.size/\(∀ k,k<w.heap.size->hblk hv≠some k->w'.heap[k]? = w.heap[k]?)/\(∀ k o,hblk hv=some k->o<n*i.size->w'.cell? ⟨k,o,none⟩=w.cell? ⟨k,o,none⟩)/\
  (∀ k,hblk hv' = some k->hblk hv=some k∨w.heap.size<=k):=by
 have hsmall:n+m<=9223372036854775807:=by simp only[maxLen] at h63;omega
 have hlen:(xs++news).length=(n+m)*i.size:=by rw[List.length_append,hown.1,hx.size,Nat.add_mul]
 obtain⟨base,cap,e0⟩:∃ b c,hv = .slice b n c:=by
  rcases hown.2 with⟨a,rfl,rfl⟩|⟨g,cap,cur,_,rfl,_⟩
  ·exact⟨_,_,rfl⟩
  ·exact⟨_,_,rfl⟩
 have grow:cap<n+m->(∀ w':World,w'.heap=w.heap->(Builtin.firstCells i.size n hv).run P w' = .ok xs.toArray w')->
  ∃ w',(Builtin.append_ #[t,tx] ty #[hv,x]).run P w = .ok (.slice (some ⟨w.heap.size,0,none⟩) (n+m) (grownCap w (n+m) cap e)) w'/\
   w' = w.drew.alloc (.cells (xs.toArray++news.toArray++Builtin.zeroCells z.cells (grownCap w (n+m) cap e - (n+m))) e):=by
  intro hg hold;refine⟨_,?_,rfl⟩;subst e0;have hn:¬ (n+m<=cap):=by omega
  have h63':¬ (9223372036854775807<((n:Int)+(m:Int))):=by omega
  have h48':¬ (281474976710656<Builtin.nextslicecap (n+m) cap*i.bytes):=by
   have:=growslice_fits hg hbytes;omega
  have hf:=hx.first w.drew rfl
  have hfo:=hold w.drew rfl;have hl:=hx.len;rcases hd with⟨e',rfl⟩|rfl
  all_goals
   simp[Builtin.append_,run_underlying ht,run_underlying htx,sizeOf,typeInfo,zeroValue,hi,hz,hl,hn,h63',h48',Question.forced,hf,hfo,newRow,grownCap];congr 2;apply Array.ext';simp[List.append_assoc]
 have grown:cap<n+m->∀ w',w' = w.drew.alloc (.cells (xs.toArray++news.toArray++Builtin.zeroCells z.cells (grownCap w (n+m) cap e - (n+m))) e)->
  Owns w' e i.size (.slice (some ⟨w.heap.size,0,none⟩) (n+m) (grownCap w (n+m) cap e)) (n+m) (xs++news)/\w'.os=w.os/\w'.tape=w.tape/\w'.output=w.output/\
  w.heap.size<=w'.heap.size/\(∀ k,k<w.heap.size->w'.heap[k]? = w.heap[k]?):=by
  intro hg w' hw';subst hw';have hge:=grownCap_ge w (n+m) cap e;have hcm:grownCap w (n+m) cap e<=maxLen:=grownCap_le_maxLen w (n+m) cap e h63;refine⟨⟨hlen,.inr ⟨w.heap.size,_,_,by omega,rfl,heap_alloc_new w.drew _,hge,hcm,?_,?_⟩⟩,rfl,rfl,rfl,by simp,fun k hk=>heap_alloc_old w.drew _ k hk⟩
  ·simp only[Array.size_append,List.size_toArray,size_zeroCells,hzs,hown.1,hx.size,<- Nat.add_mul];congr 1;omega
  ·simp only[Array.toList_append,List.append_assoc];rw[<- List.append_assoc,<- hlen];exact List.take_left
 rcases hown.2 with⟨a,hv0,hn0⟩|⟨g,cap',cur,hc0,hv0,hg,hnc,hcm,hcs,htake⟩
 ·rw[hv0] at e0;cases e0;have hx0:xs=[]:=List.eq_nil_of_length_eq_zero (by simpa using hown.1);subst hx0;by_cases hm:m=0
  ·subst hm;have hn:news=[]:=List.eq_nil_of_length_eq_zero (by simpa using hx.size);subst hn;refine⟨.slice base 0 0,w,?_,⟨by simp,.inl ⟨base,rfl,rfl⟩⟩,rfl,rfl,rfl,Nat.le_refl _,fun _ _ _=>rfl,fun _ _ _ _=>rfl,fun k hk=>.inl (by rw[hv0];exact hk)⟩;subst hv0;have hl:=hx.len;have hf:=hx.first w rfl
   rcases hd with⟨e',rfl⟩|rfl<;>cases base<;>simp[Builtin.append_,run_underlying ht,run_underlying htx,sizeOf,typeInfo,hi,hl,hf,storeCells]
  ·have hold:∀ w':World,w'.heap=w.heap->(Builtin.firstCells i.size 0 hv).run P w' = .ok ([]:List Value).toArray w':=fun w' _=>by
    subst hv0;cases base<;>simp[Builtin.firstCells,loadCells,loadCellsFrom]
   obtain⟨w',h1,h2⟩:=grow (by omega) hold;obtain⟨g1,g2,g3,g4,g5,g6⟩:=grown (by omega) w' h2;exact⟨_,w',h1,g1,g2,g3,g4,g5,fun k hk _=>g6 k hk,fun k o hk ho=>by simp at ho,fun k hk=>.inr (by
    simp[hblk] at hk;omega)⟩
 ·rw[hv0] at e0;cases e0;have hcells:∀ j u,xs[j]? = some u->w.cell? ⟨g,0+j,none⟩=some u:=fun j u hj=>by
   unfold World.cell?;simp only[hg,Option.isSome_none,Bool.false_eq_true,if_false,Nat.zero_add];rw[<- htake,List.getElem?_take] at hj;split at hj
   ·simpa using hj
   ·cases hj
  by_cases hfit:n+m<=cap
  ·have hl:=hx.len;have hf:=hx.first w rfl
   have hmul:(n+m)*i.size<=cap*i.size:=Nat.mul_le_mul_right _ hfit;have hadd:(n+m)*i.size=n*i.size+m*i.size:=Nat.add_mul _ _ _;have hst:=run_storeCells_at (P:=P) g (n*i.size) e news 0 cur w hg (by simp only[Nat.add_zero];rw[hx.size,hcs];omega) hx.one;simp only[Nat.add_zero] at hst;have hadr:(⟨g,0,none⟩:Addr).add (n*i.size)=⟨g,n*i.size,none⟩:=by rw[Addr.add_mid,Nat.zero_add]
   have hgr:=setRow_heap w g cur (cur.toList.take (n*i.size)++news++cur.toList.drop (n*i.size+news.length)).toArray e (0,0) hg;refine⟨.slice (some ⟨g,0,none⟩) (n+m) cap,_,?_,⟨hlen,.inr ⟨g,cap,_,hc0,rfl,hgr,hfit,hcm,?_,?_⟩⟩,rfl,rfl,rfl,Nat.le_of_eq (setRow_size _ _ _).symm,
    fun k hk hne=>Vj _ _ _ _ fun e=>hne ?_,fun k o hk ho=>?_,fun k hk=>.inl ?_⟩
   ·subst hv0;rcases hd with⟨e',rfl⟩|rfl<;>simp[Builtin.append_,run_underlying ht,run_underlying htx,sizeOf,typeInfo,hi,hl,hf,hfit,hadr,hst]
   ·simp only[List.size_toArray,List.length_append,List.length_take,List.length_drop,Array.length_toList];rw[hcs,hx.size];omega
   ·rw[htake,<- hlen];exact List.take_left
   ·rw[hv0,e];simp[hblk];omega
   ·rw[hv0] at hk;simp[hblk] at hk;obtain⟨_,rfl⟩:=hk;unfold World.cell?;simp only[hgr,hg,Option.isSome_none,Bool.false_eq_true,if_false,List.getElem?_toArray];rw[List.append_assoc,List.getElem?_append,if_pos (by rw[List.length_take,Array.length_toList,hcs];omega),List.getElem?_take,if_pos ho];simp
   ·rw[hv0];exact hk
  ·have hold:∀ w':World,w'.heap=w.heap->(Builtin.firstCells i.size n hv).run P w' = .ok xs.toArray w':=fun w' hw'=>by
    subst hv0;have:=run_loadCells_list (P:=P) w' ⟨g,0,none⟩ xs (fun j u hj=>by
     rw[Addr.add_mid];have:=hcells j u hj;unfold World.cell? at this ⊢;rw[hw'];exact this)
    rw[hown.1] at this;simp[Builtin.firstCells,this]
   obtain⟨w',h1,h2⟩:=grow (by omega) hold;obtain⟨g1,g2,g3,g4,g5,g6⟩:=grown (by omega) w' h2;refine⟨_,w',h1,g1,g2,g3,g4,g5,fun k hk _=>g6 k hk,fun k o hk ho=>?_,fun k hk=>.inr (by simp[hblk] at hk;omega)⟩;rw[hv0] at hk;simp[hblk] at hk;obtain⟨_,rfl⟩:=hk;exact World.cell?_of_block (g6 _ (Array.getElem?_eq_some_iff.1 hg).1)
end
section
variable {P:Program}
theorem wrap_i64' {n:Int} (h1:-9223372036854775808<=n) (h2:n<=9223372036854775807):IntKind.i64.wrap n=n:=by
 simp[IntKind.wrap,IntKind.bits,IntKind.signed];omega
theorem Qfq {w:World} {t tx ty e:TypeId} {i:TypeInfo} {z:Value} {k0 k1:IntKind} {hv:Value} {n m:Nat} {xs news:List Value}
 (ht:P.underlying t=some (.slice e)) (htx:P.underlying tx=some (.int k0)) (hi:P.info? e=some i) (hz:i.zero=some z) (hzs:z.cells.size=i.size)
 (hown:Owns w e i.size hv n xs) (hnw:news=(Builtin.zeroCells z.cells m).toList) (hx1:∀ u∈news,u.oneCell' = true) (h63:n+m<=maxLen) (hbytes:(n+m)*i.bytes<=140737488355328):
 ∃ hv' w',(Builtin.append_ #[t,tx] ty #[hv,.int k1 m]).run P w = .ok hv' w'/\Owns w' e i.size hv' (n+m) (xs++news)/\w'.os=w.os/\w'.tape=w.tape/\w'.output=w.output/\
  w.heap.size<=w'.heap.size/\(∀ k,k<w.heap.size->hblk hv≠some k->w'.heap[k]? = w.heap[k]?)/\(∀ k o,hblk hv=some k->o<n*i.size->w'.cell? ⟨k,o,none⟩=w.cell? ⟨k,o,none⟩)/\
  (∀ k,hblk hv' = some k->hblk hv=some k∨w.heap.size<=k):=by
 have hxs:news.length=m*i.size:=by rw[hnw,Array.length_toList,size_zeroCells,hzs]
 have hw:IntKind.i64.wrap (m:Int)=m:=wrap_i64' (by omega) (by simp only[maxLen] at h63;omega);have hneg:¬ ((m:Int)<0):=by omega
 have hbig:¬ (281474976710656<(m:Int)*i.bytes):=by
  have:m*i.bytes<=(n+m)*i.bytes:=Nat.mul_le_mul_right _ (by omega);have h2:m*i.bytes<=140737488355328:=by omega
  have h3:((m*i.bytes:Nat):Int)<=((140737488355328:Nat):Int):=Int.ofNat_le.2 h2;rw[Int.natCast_mul] at h3;omega
 have hsmall:n+m<=9223372036854775807:=by simp only[maxLen] at h63;omega
 have hlen:(xs++news).length=(n+m)*i.size:=by rw[List.length_append,hown.1,hxs,Nat.add_mul]
 obtain⟨base,cap,e0⟩:∃ b c,hv = .slice b n c:=by
  rcases hown.2 with⟨a,rfl,rfl⟩|⟨g,cap,cur,_,rfl,_⟩
  ·exact⟨_,_,rfl⟩
  ·exact⟨_,_,rfl⟩
 have grow:cap<n+m->(∀ w':World,w'.heap=w.heap->(Builtin.firstCells i.size n hv).run P w' = .ok xs.toArray w')->
  ∃ w',(Builtin.append_ #[t,tx] ty #[hv,.int k1 m]).run P w = .ok (.slice (some ⟨w.heap.size,0,none⟩) (n+m) (grownCap w (n+m) cap e)) w'/\
   w' = w.drew.alloc (.cells (xs.toArray++news.toArray++Builtin.zeroCells z.cells (grownCap w (n+m) cap e - (n+m))) e):=by
  intro hg hold;refine⟨_,?_,rfl⟩;subst e0;have hn:¬ (n+m<=cap):=by omega
  have h63':¬ (9223372036854775807<((n:Int)+(m:Int))):=by omega
  have h48':¬ (281474976710656<Builtin.nextslicecap (n+m) cap*i.bytes):=by
   have:=growslice_fits hg hbytes;omega
  have hfo:=hold w.drew rfl;by_cases hm0:m*i.size=0
  ·have hzz:Builtin.zeroCells z.cells m = #[]:=Array.eq_empty_of_size_eq_zero (by rw[size_zeroCells,hzs,hm0]);simp[Builtin.append_,run_underlying ht,run_underlying htx,sizeOf,typeInfo,zeroValue,asInt,asIntOf,hi,hz,hw,hneg,hbig,hn,h63',h48',Question.forced,hfo,newRow,grownCap,hnw,hzz]
  ·simp[Builtin.append_,run_underlying ht,run_underlying htx,sizeOf,typeInfo,zeroValue,asInt,asIntOf,hi,hz,hw,hneg,hbig,hm0,hn,h63',h48',Question.forced,hfo,newRow,grownCap,hnw]
   try (congr 2;apply Array.ext';simp[List.append_assoc])
 have grown:cap<n+m->∀ w',w' = w.drew.alloc (.cells (xs.toArray++news.toArray++Builtin.zeroCells z.cells (grownCap w (n+m) cap e - (n+m))) e)->
  Owns w' e i.size (.slice (some ⟨w.heap.size,0,none⟩) (n+m) (grownCap w (n+m) cap e)) (n+m) (xs++news)/\w'.os=w.os/\w'.tape=w.tape/\w'.output=w.output/\
  w.heap.size<=w'.heap.size/\(∀ k,k<w.heap.size->w'.heap[k]? = w.heap[k]?):=by
  intro hg w' hw';subst hw';have hge:=grownCap_ge w (n+m) cap e;have hcm:grownCap w (n+m) cap e<=maxLen:=grownCap_le_maxLen w (n+m) cap e h63;refine⟨⟨hlen,.inr ⟨w.heap.size,_,_,by omega,rfl,heap_alloc_new w.drew _,hge,hcm,?_,?_⟩⟩,rfl,rfl,rfl,by simp,fun k hk=>heap_alloc_old w.drew _ k hk⟩
  ·simp only[Array.size_append,List.size_toArray,size_zeroCells,hzs,hown.1,hxs,<- Nat.add_mul];congr 1;omega
  ·simp only[Array.toList_append,List.append_assoc];rw[<- List.append_assoc,<- hlen];exact List.take_left
 rcases hown.2 with⟨a,hv0,hn0⟩|⟨g,cap',cur,hc0,hv0,hg,hnc,hcm,hcs,htake⟩
 ·rw[hv0] at e0;cases e0;have hx0:xs=[]:=List.eq_nil_of_length_eq_zero (by simpa using hown.1);subst hx0;by_cases hm:m=0
  ·subst hm;have hn:news=[]:=List.eq_nil_of_length_eq_zero (by simpa using hxs);subst hn;refine⟨.slice base 0 0,w,?_,⟨by simp,.inl ⟨base,rfl,rfl⟩⟩,rfl,rfl,rfl,Nat.le_refl _,fun _ _ _=>rfl,fun _ _ _ _=>rfl,fun k hk=>.inl (by rw[hv0];exact hk)⟩;subst hv0;cases base<;>simp[Builtin.append_,run_underlying ht,run_underlying htx,sizeOf,typeInfo,asInt,asIntOf,hi,storeCells,show IntKind.i64.wrap 0=0 from by decide]
  ·have hold:∀ w':World,w'.heap=w.heap->(Builtin.firstCells i.size 0 hv).run P w' = .ok ([]:List Value).toArray w':=fun w' _=>by
    subst hv0;cases base<;>simp[Builtin.firstCells,loadCells,loadCellsFrom]
   obtain⟨w',h1,h2⟩:=grow (by omega) hold;obtain⟨g1,g2,g3,g4,g5,g6⟩:=grown (by omega) w' h2;exact⟨_,w',h1,g1,g2,g3,g4,g5,fun k hk _=>g6 k hk,fun k o hk ho=>by simp at ho,fun k hk=>.inr (by
    simp[hblk] at hk;omega)⟩
 ·rw[hv0] at e0;cases e0;have hcells:∀ j u,xs[j]? = some u->w.cell? ⟨g,0+j,none⟩=some u:=fun j u hj=>by
   unfold World.cell?;simp only[hg,Option.isSome_none,Bool.false_eq_true,if_false,Nat.zero_add];rw[<- htake,List.getElem?_take] at hj;split at hj
   ·simpa using hj
   ·cases hj
  by_cases hfit:n+m<=cap
  ·have hmul:(n+m)*i.size<=cap*i.size:=Nat.mul_le_mul_right _ hfit;have hadd:(n+m)*i.size=n*i.size+m*i.size:=Nat.add_mul _ _ _;have hst:=run_storeCells_at (P:=P) g (n*i.size) e news 0 cur w hg (by simp only[Nat.add_zero];rw[hxs,hcs];omega) hx1;simp only[Nat.add_zero] at hst;have hadr:(⟨g,0,none⟩:Addr).add (n*i.size)=⟨g,n*i.size,none⟩:=by rw[Addr.add_mid,Nat.zero_add]
   have hgr:=setRow_heap w g cur (cur.toList.take (n*i.size)++news++cur.toList.drop (n*i.size+news.length)).toArray e (0,0) hg;refine⟨.slice (some ⟨g,0,none⟩) (n+m) cap,_,?_,⟨hlen,.inr ⟨g,cap,_,hc0,rfl,hgr,hfit,hcm,?_,?_⟩⟩,rfl,rfl,rfl,Nat.le_of_eq (setRow_size _ _ _).symm,
    fun k hk hne=>Vj _ _ _ _ fun e=>hne ?_,fun k o hk ho=>?_,fun k hk=>.inl ?_⟩
   ·subst hv0;have hst':=hst;rw[hnw] at hst';by_cases hm0:m*i.size=0
    ·have hzz:Builtin.zeroCells z.cells m = #[]:=Array.eq_empty_of_size_eq_zero (by rw[size_zeroCells,hzs,hm0]);rw[hzz] at hst';simp at hst';simp[Builtin.append_,run_underlying ht,run_underlying htx,sizeOf,typeInfo,zeroValue,asInt,asIntOf,hi,hz,hw,hneg,hbig,hfit,hadr,hst',hnw,hzz]
    ·simp[Builtin.append_,run_underlying ht,run_underlying htx,sizeOf,typeInfo,zeroValue,asInt,asIntOf,hi,hz,hw,hneg,hbig,hm0,hfit,hadr,hst',hnw]
   ·simp only[List.size_toArray,List.length_append,List.length_take,List.length_drop,Array.length_toList];rw[hcs,hxs];omega
   ·rw[htake,<- hlen];exact List.take_left
   ·rw[hv0,e];simp[hblk];omega
   ·rw[hv0] at hk;simp[hblk] at hk;obtain⟨_,rfl⟩:=hk;unfold World.cell?;simp only[hgr,hg,Option.isSome_none,Bool.false_eq_true,if_false,List.getElem?_toArray];rw[List.append_assoc,List.getElem?_append,if_pos (by rw[List.length_take,Array.length_toList,hcs];omega),List.getElem?_take,if_pos ho];simp
   ·rw[hv0];exact hk
  ·have hold:∀ w':World,w'.heap=w.heap->(Builtin.firstCells i.size n hv).run P w' = .ok xs.toArray w':=fun w' hw'=>by
    subst hv0;have:=run_loadCells_list (P:=P) w' ⟨g,0,none⟩ xs (fun j u hj=>by
     rw[Addr.add_mid];have:=hcells j u hj;unfold World.cell? at this ⊢;rw[hw'];exact this)
    rw[hown.1] at this;simp[Builtin.firstCells,this]
   obtain⟨w',h1,h2⟩:=grow (by omega) hold;obtain⟨g1,g2,g3,g4,g5,g6⟩:=grown (by omega) w' h2;refine⟨_,w',h1,g1,g2,g3,g4,g5,fun k hk _=>g6 k hk,fun k o hk ho=>?_,fun k hk=>.inr (by simp[hblk] at hk;omega)⟩;rw[hv0] at hk;simp[hblk] at hk;obtain⟨_,rfl⟩:=hk;exact World.cell?_of_block (g6 _ (Array.getElem?_eq_some_iff.1 hg).1)
end
def XC (P:Program) (t:TypeId):Option Nat:=(P.info? t).map (·.bytes)
def chars (s:ByteArray):List V:=s.data.toList.map fun b=>.int .u8 b.toNat
def srcV (P:Program) (get:Id->Option Blk) (n:Nat) (tx:TypeId):V->Option (List V)
 | .slice xs=>if Qo P tx = .slice/\xs.all (·.cells.length == n)=true then some xs else none
 | .snil=>if Qo P tx = .slice then some [] else none
 | .str s=>if Qo P tx = .str/\n=1 then some (chars s) else none
 | .vec id ver=>if Qo P tx = .slice then (get id).bind fun|.vec _ s es ver' _=>if ver=ver'/\s=n then some es else none|_=>none else none
 | .vsub id ver z lo len=>if Qo P tx = .slice then (get id).bind fun|.vec _ s es ver' _=>if ver=ver'/\s=n/\z=n then some ((es.drop lo).take len) else none|_=>none else none
 | _=>none
def Wcw (P:Program) (t:TypeId):Bool:=match Qo P t with|.int _=>true|_=>false
def srcZ (P:Program) (get:Id->Option Blk) (n:Nat) (tx:TypeId) (z:V):V->Option (List V)
 | .int _ k=>if Wcw P tx=true/\0<=k then some (List.replicate k.toNat z) else none
 | x=>srcV P get n tx x
theorem QQz {P:Program} {get get':Id->Option Blk} {n:Nat} {tx:TypeId} {z x:V} (h:srcV P get' n tx x=srcV P get n tx x):srcZ P get' n tx z x=srcZ P get n tx z x:=by
 by_cases hi:∃ k0 k,x = .int k0 k
 ·obtain⟨k0,k,rfl⟩:=hi;rfl
 ·have e:∀ g:Id->Option Blk,srcZ P g n tx z x=srcV P g n tx x:=fun g=>by
   cases x<;>first|rfl|exact absurd ⟨_,_,rfl⟩ hi
  rw[e,e,h]
def appV (P:Program) (get:Id->Option Blk) (j:Id) (t tx:TypeId) (s x:V):Option (V × Upd):=
 (Wt P t).bind fun el=>(Qx P el).bind fun n=>(XC P el).bind fun bb=>(QQ P el).bind fun z=>(srcZ P get n tx z x).bind fun xs=>
   if z.cells.length=n/\0<n then
    match s with
    | .vec id ver=>(get id).bind fun
      | .vec t' s' es ver' wr=>
        if t' = el/\s' = n/\ver=ver'/\es.length+xs.length<=9223372036854775807/\(es.length+xs.length)*bb<=140737488355328 then
         some (.vec id (ver+1),.put id (.vec t' s' (es++xs) (ver+1) wr)) else none
      | _=>none
    | .snil=>if xs.length<=9223372036854775807/\xs.length*bb<=140737488355328 then some (.vec j 1,.new (.vec el n xs 1 true)) else none
    | _=>none
   else none
section
variable {P:Program} {lk:Operand->Option V} {σ:Qa} {j:Id} {E:Amb}
theorem qq {n:Nat} {tx:TypeId} {x:V} {cx:Value} {xs:List V} (h:srcV P σ.get n tx x=some xs) (hs:Qk E σ) (hx:Rep E x cx):
 ∃ news d,Src P E.w n cx xs.length news/\RepL E (xs.flatMap V.cells) news/\(∀ e∈xs,e.cells.length=n/\e.ok)/\P.underlying tx=some d/\((∃ e',d = .slice e')∨d = .string):=by
 unfold srcV at h;split at h
 ·split at h
  ·rename_i hc;cases h;obtain⟨d,hd⟩:=XD hc.1;have hall:∀ e∈xs,e.cells.length=n:=fun e he=>by simpa using (List.all_eq_true.1 hc.2) e he
   cases hx with
   | slice0 a c=>exact⟨[],_,⟨rfl,fun w' _=>by cases a<;>simp[Builtin.firstCells,loadCells,loadCellsFrom],by simp,by simp⟩,.nil,by simp,hd,.inl ⟨_,rfl⟩⟩
   | @slice _ cvs b o cap s hl hcc hu hcap=>
     have hlen:cvs.length=xs.length*n:=by rw[hl.length,Yt hall]
     have hsc:∀ c∈xs.flatMap V.cells,c.scalar=true:=fun c hm=>by
      obtain⟨e,he,hm'⟩:=List.mem_flatMap.1 hm;exact (hu e he).2 c hm'
     refine⟨cvs,_,⟨rfl,fun w' hw'=>?_,hlen,hl.scalars hsc⟩,hl,fun e he=>⟨hall e he,(hu e he).2⟩,hd,.inl ⟨_,rfl⟩⟩;have:=run_loadCells_list (P:=P) w' ⟨b,o,none⟩ cvs (fun j u hj=>by
      rw[Addr.add_mid];have:=(hcc j u hj).1;unfold World.cell? at this ⊢;rw[hw'];exact this)
     rw[hlen] at this;simp[Builtin.firstCells,this]
  ·cases h
 ·split at h
  ·rename_i hc;cases h;obtain⟨d,hd⟩:=XD hc;cases hx with
   | snil a=>exact⟨[],_,⟨rfl,fun w' _=>by cases a<;>simp[Builtin.firstCells,loadCells,loadCellsFrom],by simp,by simp⟩,.nil,by simp,hd,.inl ⟨_,rfl⟩⟩
  ·cases h
 ·rename_i s;split at h
  ·rename_i hc;cases h;obtain⟨hc,rfl⟩:=hc;cases hx;have hl:(chars s).length=s.size:=by simp[chars]
   have hr:∀ (l:List UInt8),RepL E ((l.map fun b=>V.int .u8 b.toNat).flatMap V.cells) (l.map fun b=>Value.int .u8 b.toNat):=fun l=>by
    induction l with
    | nil=>exact .nil
    | cons a l ih=>exact .cons (.int _ _) ih
   refine⟨s.data.toList.map fun b:UInt8=>Value.int .u8 (b.toNat:Int),_,⟨by rw[hl];rfl,fun w' _=>?_,?_,?_⟩,hr s.data.toList,?_,XW hc,.inr rfl⟩
   ·rw[hl];simp only[Builtin.firstCells,Sem.run_pure];congr 1;apply Array.ext';simp
   ·simp[hl]
   ·intro u hu;obtain⟨b,_,rfl⟩:=List.mem_map.1 hu;rfl
   ·intro e he;obtain⟨b,_,rfl⟩:=List.mem_map.1 he;exact⟨rfl,by simp[V.ok,V.cells,V.scalar]⟩
  ·cases h
 ·rename_i id ver;split at h
  ·rename_i hc;obtain⟨d,hd⟩:=XD hc;obtain⟨k,hk,h2⟩:=Option.bind_eq_some_iff.1 h;split at h2
   ·rename_i t' s' es ver' wr;split at h2
    ·rename_i hc2;obtain⟨rfl,rfl⟩:=hc2;cases h2;obtain⟨hv,ys,eι,hown,hr,hes,h0,hI⟩:=hs.blk _ _ (Qa.get_mem hk);have hcx:cx=hv:=by
      cases hx with
      | vec h1 h2 h3=>rw[eι] at h1;cases h1;exact (h3 rfl).symm
     subst hcx;have hall:∀ e∈xs,e.cells.length=s':=fun e he=>(hes e he).1;have hsc:∀ c∈xs.flatMap V.cells,c.scalar=true:=fun c hm=>by
      obtain⟨e,he,hm'⟩:=List.mem_flatMap.1 hm;exact (hes e he).2 c hm'
     refine⟨ys,_,⟨?_,fun w' hw'=>?_,hown.1,hr.scalars hsc⟩,hr,hes,hd,.inl ⟨_,rfl⟩⟩
     ·rcases hown.2 with⟨a,e1,e2⟩|⟨g,cap,cur,_,e1,_⟩
      ·rw[e1,e2];rfl
      ·rw[e1];rfl
     ·rcases hown.2 with⟨a,e1,e2⟩|⟨g,cap,cur,_,e1,hg,hcap,_,hsz,htk⟩
      ·have:ys=[]:=List.eq_nil_of_length_eq_zero (by rw[hown.1,e2];simp);rw[e1,e2,this];cases a<;>simp[Builtin.firstCells,loadCells,loadCellsFrom]
      ·have:=run_loadCells_list (P:=P) w' ⟨g,0,none⟩ ys (fun j u hj=>by
        rw[Addr.add_mid];unfold World.cell?;simp only[hw',hg,Option.isSome_none,Bool.false_eq_true,if_false,Nat.zero_add];rw[<- htk,List.getElem?_take] at hj;split at hj
        ·simpa using hj
        ·cases hj)
       rw[hown.1] at this;rw[e1];simp[Builtin.firstCells,this]
    ·cases h2
   ·cases h2
  ·cases h
 ·rename_i id ver z lo len;split at h
  ·rename_i hc;obtain⟨d,hd⟩:=XD hc;obtain⟨k,hk,h2⟩:=Option.bind_eq_some_iff.1 h;split at h2
   ·rename_i t' s' es ver' wr;split at h2
    ·rename_i hc2;obtain⟨rfl,rfl,rfl⟩:=hc2;cases h2;obtain⟨hv,ys,eι,hown,hr,hes,h0,hI⟩:=hs.blk _ _ (Qa.get_mem hk);obtain⟨a,c,rfl,b,n0,c0,e0,hln,hnc,hcc,ha⟩:∃ a c,cx = .slice a len c/\∃ b n c0,hv = .slice b n c0/\lo+len<=n/\n<=c0/\c=c0 - lo/\(lo<c0->a=b.map (·.add (lo*z))):=by
      cases hx with
      | vsub h1 h2 h3=>rw[eι] at h1;cases h1;exact⟨_,_,rfl,h3 rfl⟩
     have hn0:n0=es.length:=by
      rcases hown.2 with⟨a,e1,e2⟩|⟨g,cap,cur,_,e1,_⟩
      ·rw[e0] at e1;cases e1;exact e2.symm
      ·rw[e0] at e1;cases e1;rfl
     subst hn0;have hlen:((es.drop lo).take len).length=len:=by simp;omega
     have hsub:∀ e∈(es.drop lo).take len,e.cells.length=z/\e.ok:=fun e he=>hes e (List.mem_of_mem_drop (List.mem_of_mem_take he));have hflat:((es.drop lo).take len).flatMap V.cells=((es.flatMap V.cells).drop (lo*z)).take (len*z):=Uy (fun e he=>(hes e he).1) lo len;have hrep:RepL E (((es.drop lo).take len).flatMap V.cells) ((ys.drop (lo*z)).take (len*z)):=by rw[hflat];exact (hr.drop _).take _
     have hsc:∀ c∈((es.drop lo).take len).flatMap V.cells,c.scalar=true:=fun c hm=>by
      obtain⟨e,he,hm'⟩:=List.mem_flatMap.1 hm;exact (hsub e he).2 c hm'
     have hsz:((ys.drop (lo*z)).take (len*z)).length=len*z:=by
      have hmul:lo*z+len*z<=es.length*z:=by rw[<- Nat.add_mul];exact Nat.mul_le_mul_right _ hln
      have:=hown.1;simp only[List.length_take,List.length_drop];omega
     rw[hlen];refine⟨(ys.drop (lo*z)).take (len*z),_,⟨rfl,fun w' hw'=>?_,hsz,hrep.scalars hsc⟩,hrep,hsub,hd,.inl ⟨_,rfl⟩⟩;by_cases hl0:len=0
     ·subst hl0;cases a<;>simp[Builtin.firstCells,loadCells,loadCellsFrom]
     ·rcases hown.2 with⟨a,e1,e2⟩|⟨g,cap,cur,_,e1,hg,hcap,_,hcs,htk⟩
      ·omega
      ·rw[e0] at e1;cases e1;have ha:=ha (by omega);simp only[Option.map_some,Addr.add_mid,Nat.zero_add] at ha;subst ha;have:=run_loadCells_list (P:=P) w' ⟨g,lo*z,none⟩ ((ys.drop (lo*z)).take (len*z)) (fun j u hj=>by
        rw[Addr.add_mid];unfold World.cell?;simp only[hw',hg,Option.isSome_none,Bool.false_eq_true,if_false];rw[List.getElem?_take] at hj;split at hj
        ·rw[List.getElem?_drop,<- htk,List.getElem?_take] at hj;split at hj
         ·simpa using hj
         ·cases hj
        ·cases hj)
       rw[hsz] at this;simp[Builtin.firstCells,this]
    ·cases h2
   ·cases h2
  ·cases h
 ·cases h
theorem Vd (h:Qk E σ) {id:Id} {k k':Blk} (hm:(id,k)∈σ) (hv':Value) (ver':Nat) (w':World) (hle:(E.ι id).Le (.vec hv' ver'))
 (hos:w'.os=E.w.os) (htape:w'.tape=E.w.tape) (hout:w'.output=E.w.output) (hsz:E.w.heap.size<=w'.heap.size)
 (hoth:∀ i,i<E.w.heap.size->(E.ι id).block≠some i->w'.heap[i]? = E.w.heap[i]?)
 (hI:∀ b,(E.ι id).block=some b->∀ o,E.I b o->w'.cell? ⟨b,o,none⟩=E.w.cell? ⟨b,o,none⟩)
 (hnew:∀ b,hblk hv' = some b->(E.ι id).block=some b∨E.w.heap.size<=b):
 let E':Amb:={ I:=E.I,ι:=fun i=>if i=id then .vec hv' ver' else E.ι i,w:=w' }
 (E.Le E'->Wd E' id k')->Qk E' (σ.put id k')/\Grow E σ E' (σ.put id k')/\∀ i,E.ι i = .unborn->E'.ι i = .unborn:=by
 intro E' hk';have hid:id∈σ.keys:=List.mem_map.2 ⟨_,hm,rfl⟩;have hborn:E.ι id≠.unborn:=(h.blk _ _ hm).born;have old:∀ i,i≠id->E'.ι i=E.ι i:=fun i hi=>by simp[E',hi]
 have new:E'.ι id = .vec hv' ver':=by simp[E']
 have hle:E.Le E':=by
  refine⟨fun _ _ h=>h,fun c o hi=>?_,fun i=>?_,fun c es clk hi hm'=>?_⟩
  ·by_cases e:(E.ι id).block=some c
   ·exact hI c e o hi
   ·exact World.cell?_of_block (hoth c (h.imm c o hi) e)
  ·by_cases e:i=id
   ·subst e;rw[new];exact hle
   ·rw[old i e];exact Loc.Le.refl _
  ·by_cases e:(E.ι id).block=some c
   ·exact absurd hm' ((h.blk _ _ hm).nomap e es clk hi)
   ·show w'.heap[c]? = _;rw[hoth c (h.imm c 0 hi) e];exact hm'
 refine⟨?_,?_,fun i hi=>by rw[old i (fun e=>hborn (e▸hi))];exact hi⟩
 ·refine⟨fun i x hx=>?_,by rw[Qa.XM];exact h.nodup,fun i i' hi hi' hne b hb hb'=>?_,fun c o hi=>Nat.lt_of_lt_of_le (h.imm c o hi) hsz,?_⟩
  ·rcases Qa.jg hx with e|⟨hx,hne⟩
   ·cases e;exact hk' hle
   ·have hne:=hne h.nodup;have hi:i∈σ.keys:=List.mem_map.2 ⟨_,hx,rfl⟩;refine (h.blk i x hx).keep hle (old i hne) (fun c hc=>hoth c ((h.blk i x hx).size hc) fun e=>?_) fun _ _ _ hi=>hi;exact h.apart i id hi hid hne c hc e
  ·rw[Qa.XM] at hi hi';have far:∀ i,i∈σ.keys->i≠id->∀ b,(E.ι i).block=some b->(E'.ι id).block≠some b:=fun i hi hne b hb hb'=>by
    rw[new] at hb';rcases hnew b hb' with e|e
    ·exact h.apart i id hi hid hne b hb e
    ·obtain⟨kk,_,hkk⟩:=h.mem hi;have:=hkk.size hb;omega
   by_cases e:i=id
   ·subst e;have e':i'≠i:=fun e=>hne e.symm;rw[old i' e'] at hb';exact far i' hi' e' b hb' hb
   ·rw[old i e] at hb;by_cases e':i' = id
    ·subst e';exact far i hi e b hb hb'
    ·rw[old i' e'] at hb';exact h.apart i i' hi hi' hne b hb hb'
  ·obtain⟨N,hN⟩:=h.fin;refine⟨N,fun i hi=>?_⟩;rw[old i (fun e=>hborn (e▸hN i hi))];exact hN i hi
 ·refine⟨hle,fun c hc ho=>hoth c hc fun e=>ho ⟨id,hid,e⟩,fun _ _ hi=>.inl hi,fun i hn hu=>old i fun e=>hn (e▸hid),fun i hi=>.inl (by rw[Qa.XM] at hi;exact hi),fun c ⟨i,hi,hc⟩=>?_,hos,htape,hout,hsz⟩;rw[Qa.XM] at hi;by_cases e:i=id
  ·subst e;rw[new] at hc;rcases hnew c hc with e|e
   ·exact .inr ⟨i,hid,e⟩
   ·exact .inl e
  ·rw[old i e] at hc;exact .inr ⟨i,hi,hc⟩
theorem thaw (h:Qk E σ) (hj:E.ι j = .unborn) (t:TypeId) (s:Nat) (h0:0<s) (a:Option Addr):
 let E':Amb:={ I:=E.I,ι:=fun i=>if i=j then .vec (.slice a 0 0) 0 else E.ι i,w:=E.w }
 Qk E' ((j,.vec t s [] 0 true)::σ)/\Grow E σ E' ((j,.vec t s [] 0 true)::σ)/\∀ i,i≠j->E.ι i = .unborn->E'.ι i = .unborn:=by
 intro E';have hjσ:j∉σ.keys:=fun hm=>by obtain⟨k,_,hk⟩:=h.mem hm;exact hk.born hj
 have old:∀ i,i≠j->E'.ι i=E.ι i:=fun i hi=>by simp[E',hi]
 have new:E'.ι j = .vec (.slice a 0 0) 0:=by simp[E']
 have hnb:hblk (.slice a 0 0)=none:=by cases a<;>rfl
 have hle:E.Le E':=by
  refine⟨fun _ _ h=>h,fun _ _ _=>rfl,fun i=>?_,fun _ _ _ _ h=>h⟩;by_cases e:i=j
  ·subst e;rw[hj];trivial
  ·rw[old i e];exact Loc.Le.refl _
 have key:∀ i,i∈Qa.keys ((j,.vec t s [] 0 true)::σ)->i=j∨(i∈σ.keys/\i≠j):=fun i hi=>by
  rcases List.mem_cons.1 hi with e|hi
  ·exact .inl e
  ·exact .inr ⟨hi,fun e=>hjσ (e▸hi)⟩
 refine⟨⟨fun i x hx=>?_,List.nodup_cons.2 ⟨hjσ,h.nodup⟩,fun i i' hi hi' hne b hb hb'=>?_,h.imm,?_⟩,?_,fun i hi hu=>by rw[old i hi];exact hu⟩
 ·rcases List.mem_cons.1 hx with e|hx
  ·cases e;exact⟨.slice a 0 0,[],new,⟨by simp,.inl ⟨a,rfl,rfl⟩⟩,.nil,by simp,h0,fun b hb=>by rw[hnb] at hb;cases hb⟩
  ·have hi:i∈σ.keys:=List.mem_map.2 ⟨_,hx,rfl⟩;exact (h.blk i x hx).keep hle (old i fun e=>hjσ (e▸hi)) (fun _ _=>rfl) fun _ _ _ hi=>hi
 ·rcases key i hi with e|⟨hi,e⟩
  ·rw[e,new] at hb;simp[Loc.block,hnb] at hb
  ·rcases key i' hi' with e'|⟨hi',e'⟩
   ·rw[e',new] at hb';simp[Loc.block,hnb] at hb'
   ·rw[old i e] at hb;rw[old i' e'] at hb';exact h.apart i i' hi hi' hne b hb hb'
 ·obtain⟨N,hN⟩:=h.fin;refine⟨max N (j.1+1),fun i hi=>?_⟩;rw[old i (fun e=>by subst e;omega)];exact hN i (by omega)
 ·refine⟨hle,fun _ _ _=>rfl,fun _ _ hi=>.inl hi,fun i hn hu=>old i fun e=>hu (e▸hj),fun i hi=>?_,fun c ⟨i,hi,hc⟩=>?_,rfl,rfl,rfl,Nat.le_refl _⟩
  ·rcases key i hi with e|⟨hi,_⟩
   ·exact .inr (e▸hj)
   ·exact .inl hi
  ·rcases key i hi with e|⟨hi,e⟩
   ·rw[e,new] at hc;simp[Loc.block,hnb] at hc
   ·rw[old i e] at hc;exact .inr ⟨i,hi,hc⟩
theorem zV {t n:Nat} (h:XC P t=some n):∃ i,P.info? t=some i/\i.bytes=n:=by
 obtain⟨i,h1,h2⟩:=Option.map_eq_some_iff.1 h;exact⟨i,h1,h2⟩
theorem qv {t n:Nat} (h:Qx P t=some n):∃ i,P.info? t=some i/\i.size=n:=by
 obtain⟨i,h1,h2⟩:=Option.map_eq_some_iff.1 h;exact⟨i,h1,h2⟩
end
end Go.Awp
