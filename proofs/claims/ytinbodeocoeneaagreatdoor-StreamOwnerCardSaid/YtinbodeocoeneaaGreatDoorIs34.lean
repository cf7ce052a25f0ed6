/- Proof. Conditions: none. -/
import Derived.Shelf.Strings.BuilderF
import Derived.Shelf.Strings.OnBuilder
import Derived.Shelf.Strconv.Itoa3
import Derived.Test.YtinbodeocoeneaaGreatDoorIs33
open Nat renaming le_refl→zna
namespace Go.Eng
open Go.Shelf Go.RowKit Go.Proofs
set_option linter.all false
theorem owns_base {w:World} {B e n:Nat} {v:Value} {xs:List Value} (h:w.ownsRowF B e 1 v n xs):w.ownsRowF 0 e 1 v n xs:=by
 refine ⟨h.1,?_⟩
 rcases h.2 with q | ⟨g,cap,cur,fz,a1,_,a3⟩
 .exact .inl q
 .exact .inr ⟨g,cap,cur,fz,a1,Nat.zero_le _,a3⟩
theorem owns_blk {w:World} {B e n:Nat} {v:Value} {xs:List Value} (h:w.ownsRowF B e 1 v n xs) (g:Nat) (hg:v.ownBlock=some g):B≤g:=by
 rcases h.2 with ⟨rfl,_⟩ | ⟨g',cap,cur,fz,rfl,a2,_⟩
 .cases hg
 .cases hg
  exact a2
section
variable {P:Program} (w:World)
theorem run_str_where (t u ty e:TypeId) (i:TypeInfo) (ht:P.underlying t=some (.slice e)) (hu:P.underlying u=some .string) (hi:P.info? e=some i) (hz:i.zero=some (.int .u8 0))
  (hsize:i.size=1) (hby:i.bytes=1) (v:Value) (n:Nat) (xs:List Value) (hown:w.ownsRowF 0 e 1 v n xs) (s:ByteArray) (h63:n+s.size≤maxLen) (hbytes:n+s.size≤140737488355328) :
  ∃v' w',(Builtin.append_ #[t,u] ty #[v,.string s]).run P w=.ok v' w'∧w'.ownsRowF 0 e 1 v' (n+s.size) (xs++Lib.strCells s)∧w.grownBy w' v.ownBlock ∧
   ∀g,v'.ownBlock=some g→v.ownBlock=some g∨w.heap.size≤g:=by
 rcases hown.2 with ⟨rfl,rfl⟩ | ⟨g,cap,cur,fz,rfl,_,hg,hfz,hnc,hcm,hcs,htake⟩
 .obtain ⟨v',w',h1,h2,h3,_⟩:=Lib.run_append_own_stringF (P:=P) w w.heap.size t u ty e i ht hu hi hz hsize hby (.slice none 0 0) 0 xs ⟨hown.1,.inl ⟨rfl,rfl⟩⟩ s h63 hbytes (zna _)
  exact ⟨v',w',h1,owns_base h2,h3,fun g hg=>.inr (owns_blk h2 g hg)⟩
 .obtain ⟨v',w',h1,h2,h3,_⟩:=Lib.run_append_own_stringF (P:=P) w 0 t u ty e i ht hu hi hz hsize hby _ n xs hown s h63 hbytes (Nat.zero_le _)
  refine ⟨v',w',h1,h2,h3,?_⟩
  have hxl:xs.length=n:=by simpa using hown.1
  by_cases hroom:n+s.size≤cap
  .have hr:=Lib.run_append_room_stringF (P:=P) w t u ty e i ht hu hi hsize g n cap cur fz hg (by simpa using hfz) s hroom (by simp at hcs;omega)
   rw [h1] at hr
   cases hr
   exact fun g' e=>.inl e
  .have holds:∀j u,xs[j]?=some u→w.cell? ((⟨g,0,none⟩:Addr).add j)=some u:=hown.cells (g:=g) rfl
   have hr:=Lib.run_append_grow_string (P:=P) w t u ty e i (.int .u8 0) ht hu hi hz ⟨g,0,none⟩ n cap xs (by rw [hsize];simpa using hxl) holds s (by omega) (by simp only [maxLen] at h63;omega) (by rw [hby];exact growslice_fits (by omega) (by omega))
   rw [h1] at hr
   cases hr
   exact fun g' e=>by cases e;exact .inr (zna _)
theorem run_row_where (t ty e:TypeId) (i:TypeInfo) (z:Value) (ht:P.underlying t=some (.slice e)) (hi:P.info? e=some i) (hz:i.zero=some z)
  (hsize:i.size=1) (hby:i.bytes=1) (hzs:z.cells.size=1) (v:Value) (n:Nat) (xs:List Value) (hown:w.ownsRowF 0 e 1 v n xs)
  (a:Addr) (m c:Nat) (news:List Value) (hl:news.length=m*1) (hnews:∀j u,news[j]?=some u→w.cell? (a.add j)=some u) (h1:∀u∈news,u.oneCell'=true)
  (h63:n+m≤maxLen) (hbytes:(n+m)*1≤140737488355328) :
  ∃v' w',(Builtin.append_ #[t,t] ty #[v,.slice (some a) m c]).run P w=.ok v' w'∧w'.ownsRowF 0 e 1 v' (n+m) (xs++news)∧w.grownBy w' v.ownBlock ∧
   ∀g,v'.ownBlock=some g→v.ownBlock=some g∨w.heap.size≤g:=by
 rcases hown.2 with ⟨rfl,rfl⟩ | ⟨g,cap,cur,fz,rfl,_,hg,hfz,hnc,hcm,hcs,htake⟩
 .obtain ⟨v',w',r1,r2,r3,_⟩:=run_append_ownF (P:=P) w w.heap.size t ty e i z 1 1 ht hi hz hsize hby hzs (by decide) (.slice none 0 0) 0 xs ⟨hown.1,.inl ⟨rfl,rfl⟩⟩ a m c news hl hnews h1 h63 hbytes (zna _)
  exact ⟨v',w',r1,owns_base r2,r3,fun g hg=>.inr (owns_blk r2 g hg)⟩
 .obtain ⟨v',w',r1,r2,r3,_⟩:=run_append_ownF (P:=P) w 0 t ty e i z 1 1 ht hi hz hsize hby hzs (by decide) _ n xs hown a m c news hl hnews h1 h63 hbytes (Nat.zero_le _)
  refine ⟨v',w',r1,r2,r3,?_⟩
  by_cases hroom:n+m≤cap
  .have hr:=run_append_roomF (P:=P) w t ty e i ht hi g n cap cur fz hg (by rw [hsize];exact hfz) a m c news (by rw [hsize];exact hl) hnews h1 hroom (by simp at hcs hl;rw [hsize];omega)
   rw [r1] at hr
   cases hr
   exact fun g' e=>.inl e
  .have holds:∀j u,xs[j]?=some u→w.cell? ((⟨g,0,none⟩:Addr).add j)=some u:=hown.cells (g:=g) rfl
   have hr:=run_append_grow (P:=P) w t ty e i z ht hi hz ⟨g,0,none⟩ n cap xs (by rw [hsize];exact hown.1) holds a m c news (by rw [hsize];exact hl) hnews (by omega) (by simp only [maxLen] at h63;omega) (by rw [hby];exact growslice_fits (by omega) hbytes)
   rw [r1] at hr
   cases hr
   exact fun g' e=>by cases e;exact .inr (zna _)
variable {w}
theorem wp_str_where {ops:Array Oper} {rest:List Oper} {o:Oper} {a:Act} {Q:Exit→Act→World→Prop} (hgd:o.guard=none) (sl x:Operand) (t u:TypeId)
  (ho:o.op=.call { callee:=.builtin .append,args:=#[sl,x],argTypes:=#[t,u] }) (e:TypeId) (i:TypeInfo) (ht:P.underlying t=some (.slice e)) (hu:P.underlying u=some .string) (hi:P.info? e=some i) (hz:i.zero=some (.int .u8 0))
  (hsize:i.size=1) (hby:i.bytes=1) (v:Value) (n:Nat) (xs:List Value) (hs:a.eval sl=v) (hown:w.ownsRowF 0 e 1 v n xs) (s:ByteArray) (hx:a.eval x=.string s)
  (h63:n+s.size≤maxLen) (hbytes:n+s.size≤140737488355328)
  (h:∀v' w',w'.ownsRowF 0 e 1 v' (n+s.size) (xs++Lib.strCells s)→w.grownBy w' v.ownBlock→(∀g,v'.ownBlock=some g→v.ownBlock=some g∨w.heap.size≤g)→wpList P ops Q rest (a.put o.dst v') w'):wpList P ops Q (o::rest) a w:=by
 refine wpList_plain hgd fun K hK=>?_
 obtain ⟨v',w',hr,h2,h3,h4⟩:=run_str_where (P:=P) w t u o.type e i ht hu hi hz hsize hby v n xs hown s h63 hbytes
 unfold Oper.wp execOp
 simp only [ho,resolve,invoke,builtin,Sem.run_bind,Sem.run_pure,Result.andThen_ok,List.map_toArray,List.map_cons,List.map_nil,hs,hx,hr]
 exact hK _ _ (h v' w' h2 h3 h4)
theorem wp_row_where {ops:Array Oper} {rest:List Oper} {o:Oper} {a:Act} {Q:Exit→Act→World→Prop} (hgd:o.guard=none) (sl x:Operand) (t:TypeId)
  (ho:o.op=.call { callee:=.builtin .append,args:=#[sl,x],argTypes:=#[t,t] }) (e:TypeId) (i:TypeInfo) (z:Value) (ht:P.underlying t=some (.slice e)) (hi:P.info? e=some i) (hz:i.zero=some z)
  (hsize:i.size=1) (hby:i.bytes=1) (hzs:z.cells.size=1) (v:Value) (n:Nat) (xs:List Value) (hs:a.eval sl=v) (hown:w.ownsRowF 0 e 1 v n xs)
  (ad:Addr) (m c:Nat) (news:List Value) (hx:a.eval x=.slice (some ad) m c) (hl:news.length=m*1) (hnews:∀j u,news[j]?=some u→w.cell? (ad.add j)=some u) (h1:∀u∈news,u.oneCell'=true)
  (h63:n+m≤maxLen) (hbytes:(n+m)*1≤140737488355328)
  (h:∀v' w',w'.ownsRowF 0 e 1 v' (n+m) (xs++news)→w.grownBy w' v.ownBlock→(∀g,v'.ownBlock=some g→v.ownBlock=some g∨w.heap.size≤g)→wpList P ops Q rest (a.put o.dst v') w'):wpList P ops Q (o::rest) a w:=by
 refine wpList_plain hgd fun K hK=>?_
 obtain ⟨v',w',hr,h2,h3,h4⟩:=run_row_where (P:=P) w t o.type e i z ht hi hz hsize hby hzs v n xs hown ad m c news hl hnews h1 h63 hbytes
 unfold Oper.wp execOp
 simp only [ho,resolve,invoke,builtin,Sem.run_bind,Sem.run_pure,Result.andThen_ok,List.map_toArray,List.map_cons,List.map_nil,hs,hx,hr]
 exact hK _ _ (h v' w' h2 h3 h4)
end
structure BA (T e b:Nat) (p v:Value) (bs:List Value) (w:World):Prop where
 blk:w.heap[b]?=some (.cells #[p,v] T (0,0))
 own:w.ownsRowF 0 e 1 v bs.length bs
 ne:v.ownBlock≠some b
structure Wrote (T e b:Nat) (p' v:Value) (bs':List Value) (w w':World):Prop where
 ex:∃v',BA T e b p' v' bs' w'∧∀g,v'.ownBlock=some g→v.ownBlock=some g∨w.heap.size≤g
 os:w'.os=w.os
 tape:w'.tape=w.tape
 output:w'.output=w.output
 size:w.heap.size≤w'.heap.size
 block:∀k,k<w.heap.size→k≠b→some k≠v.ownBlock→w'.heap[k]?=w.heap[k]?
theorem BA.lt {T e b:Nat} {p v:Value} {bs:List Value} {w:World} (h:BA T e b p v bs w):b<w.heap.size:=by
 rcases Nat.lt_or_ge b w.heap.size with h' | h'
 .exact h'
 .have:=h.blk
  rw [Array.getElem?_eq_none h'] at this
  cases this
theorem Wrote.put {T e b:Nat} {p v v':Value} {bs':List Value} {w w1 w2:World} (hlt:b<w.heap.size) (ho:w1.os=w.os∧w1.tape=w.tape∧w1.output=w.output∧w.heap.size≤w1.heap.size∧∀k,k<w.heap.size→k≠b→w1.heap[k]?=w.heap[k]?)
  (hg:w1.grownBy w2 v.ownBlock) (hb2:w2.heap[b]?=some (.cells #[p,v] T (0,0))) (hown:w2.ownsRowF 0 e 1 v' bs'.length bs') (hTe:T≠e) (hw:∀g,v'.ownBlock=some g→v.ownBlock=some g∨w.heap.size≤g) :
  Wrote T e b p v bs' w (w2.setCell ⟨b,1,none⟩ v'):=by
 have hne:=Lib.ownBlock_neF hown hb2 hTe
 obtain ⟨o1,o2,o3,o4,o5⟩:=ho
 refine ⟨⟨v',⟨?_,?_,hne⟩,hw⟩,hg.os.trans o1,hg.tape.trans o2,hg.output.trans o3,?_,fun k hk hkb hkv=>?_⟩
 .simp [World.setCell,Array.getElem?_modify,hb2]
 .exact hown.kept (row:=some b) ⟨rfl,rfl,rfl,by simp [World.setCell],fun k _ hk=>Below.heap_setCell _ _ _ _ (fun e=>hk (by simp [e]))⟩ (Or.inr hne)
 .have:=hg.size
  simp [World.setCell]
  omega
 .rw [Below.heap_setCell _ _ _ _ (fun e=>hkb e),hg.block k (by omega) hkv]
  exact o5 k hk hkb
variable {P:Program} {ρ:Ren}
theorem sb_check (L:Lays.n240 P ρ) (X:Builder.X72 P ρ) {b:Nat} {p v:Value} {w:World} (hp:p=.pointer none∨p=.pointer (some ⟨b,0,none⟩)) (hb:w.heap[b]?=some (.cells #[p,v] (ρ.t 72) (0,0))) :
  Calls P (ρ.f 240) #[.pointer (some ⟨b,0,none⟩)] w fun e w'=>e=.returned (.tuple #[])∧w'.heap[b]?=some (.cells #[.pointer (some ⟨b,0,none⟩),v] (ρ.t 72) (0,0)) ∧
   w'.os=w.os∧w'.tape=w.tape∧w'.output=w.output∧w'.heap.size=w.heap.size∧∀k,k≠b→w'.heap[k]?=w.heap[k]?:=by
 rcases hp with rfl | rfl
 .refine (Any.Builder_copyCheck_fresh L X b w (by rw [Lib.cell_of_heap hb];rfl) (by simp [World.shape?,hb]) (Lib.frozen_of_heap hb 0)).mono ?_
  rintro e w' ⟨rfl,rfl⟩
  have hlt:b<w.heap.size:=(Array.getElem?_eq_some_iff.1 hb).1
  refine ⟨rfl,?_,rfl,rfl,rfl,by simp [World.setCell],fun k hk=>Below.heap_setCell _ _ _ _ (fun e=>hk e)⟩
  simp [World.setCell,Array.getElem?_modify,hb]
 .refine (Any.Builder_copyCheck_used L X b w (by rw [Lib.cell_of_heap hb];rfl)).mono ?_
  rintro e w' ⟨rfl,rfl⟩
  exact ⟨rfl,hb,rfl,rfl,rfl,rfl,fun _ _=>rfl⟩
set_option maxHeartbeats 2000000 in
set_option maxRecDepth 100000 in
theorem sb_string (L:Lays.n166 P ρ) (X:Builder.Extra P ρ) {b:Nat} {p v:Value} {bs:List Value} {w:World} (hp:p=.pointer none∨p=.pointer (some ⟨b,0,none⟩)) (h:BA (ρ.t 72) (ρ.t 5) b p v bs w) (s:ByteArray) (hlen:bs.length+s.size≤140737488355328) :
  Calls P (ρ.f 166) #[.pointer (some ⟨b,0,none⟩),.string s] w fun e w'=>e=.returned (.tuple #[.int .i64 s.size,.nilIface])∧Wrote (ρ.t 72) (ρ.t 5) b (.pointer (some ⟨b,0,none⟩)) v (bs++Lib.strCells s) w w':=by
 obtain ⟨i0,hi,hz0,hz1,hz2⟩:=info_parts X.infoByte
 have mixed:=L.mixed
 have t72:=L.t72;have a72:=L.a72;have z72:=L.z72;have v72:=L.v72;have u72:=run_underlying L.t72
 have t70:=L.t70;have a70:=L.a70;have z70:=L.z70;have v70:=L.v70;have u70:=run_underlying L.t70
 have t37:=L.t37;have a37:=L.a37;have z37:=L.z37;have v37:=L.v37;have u37:=run_underlying L.t37
 have t3:=L.t3;have a3:=L.a3;have z3:=L.z3;have v3:=L.v3;have u3:=run_underlying L.t3
 have t9:=L.t9;have a9:=L.a9;have z9:=L.z9;have v9:=L.v9;have u9:=run_underlying L.t9
 have t4:=L.t4;have a4:=L.a4;have z4:=L.z4;have v4:=L.v4;have u4:=run_underlying L.t4
 have t164:=L.t164;have a164:=L.a164;have z164:=L.z164;have v164:=L.v164;have u164:=run_underlying L.t164
 have t5:=X.t5;have a5:=X.a5;have z5:=X.z5;have v5:=X.v5;have u5:=run_underlying X.t5
 have e240:∀args w,(callFunc (ρ.f 240) args).run P w=.ok (.enter (ρ.f 240) args) w:=enters_of L.f240 (by kernel_rfl) rfl
 have hlt:=h.lt
 go_enter L.f166,Body.n166_ntmps ρ
 go_wp2_with (go_at_fn (ρ.f 240);refine (sb_check { L with } X.toX72 hp h.blk).mono ?_)
 rintro e w1 ⟨rfl,hbk,o1,o2,o3,o4,o5⟩
 have hown1:w1.ownsRowF 0 (ρ.t 5) 1 v bs.length bs:=by
  refine ⟨h.own.1,?_⟩
  rcases h.own.2 with q | ⟨g,cap,cur,fz,rfl,a2,a3,a4⟩
  .exact .inl q
  .exact .inr ⟨g,cap,cur,fz,rfl,a2,by rw [o5 g (fun e=>h.ne (by rw [e];rfl))];exact a3,a4⟩
 have c0:w1.cell? ⟨b,0,none⟩=some (.pointer (some ⟨b,0,none⟩)):=by rw [Lib.cell_of_heap hbk];rfl
 have c1:w1.cell? ⟨b,1,none⟩=some v:=by rw [Lib.cell_of_heap hbk];rfl
 go_wp2_with (at_builtin;refine wp_str_where rfl _ _ (ρ.t 37) (ρ.t 9) rfl (ρ.t 5) i0 L.t37 L.t9 hi hz0 hz1 hz2 _ _ _ rfl hown1 s rfl ?c3 ?c4 ?_)
 case c3=>unfold maxLen;omega
 case c4=>omega
 intro v' w2 hown' hgrow hwh
 have hb2:w2.heap[b]?=some (.cells #[.pointer (some ⟨b,0,none⟩),v] (ρ.t 72) (0,0)):=by
  rw [hgrow.block b (by omega) (fun e=>h.ne e.symm)]
  exact hbk
 have d0:w2.cell? ⟨b,0,none⟩=some (.pointer (some ⟨b,0,none⟩)):=by rw [Lib.cell_of_heap hb2];rfl
 have d1:w2.cell? ⟨b,1,none⟩=some v:=by rw [Lib.cell_of_heap hb2];rfl
 have f1:w2.frozen? ⟨b,1,none⟩=false:=Lib.frozen_of_heap hb2 1
 obtain ⟨ao,n',cap,rfl⟩:∃ao n' cap,v'=.slice ao n' cap:=by
  rcases hown'.2 with ⟨hv,_⟩ | ⟨g,cap,cur,fz,hv,_⟩
  .exact ⟨_,_,_,hv⟩
  .exact ⟨_,_,_,hv⟩
 go_wp2
 go_ret2
 exact ⟨rfl,Wrote.put hlt ⟨o1,o2,o3,by omega,fun k _ hk=>o5 k hk⟩ hgrow hb2 (by simpa [Lib.strCells_length] using hown') X.neB5 (fun g hg=>(hwh g hg).imp id (by omega))⟩
set_option maxHeartbeats 2000000 in
set_option maxRecDepth 100000 in
theorem sb_byte (L:Lays.n167 P ρ) (X:Builder.Extra P ρ) {b:Nat} {p v:Value} {bs:List Value} {w:World} (hp:p=.pointer none∨p=.pointer (some ⟨b,0,none⟩)) (h:BA (ρ.t 72) (ρ.t 5) b p v bs w) (c:Int) (hlen:bs.length+1≤140737488355328) :
  Calls P (ρ.f 167) #[.pointer (some ⟨b,0,none⟩),.int .u8 c] w fun e w'=>e=.returned .nilIface∧Wrote (ρ.t 72) (ρ.t 5) b (.pointer (some ⟨b,0,none⟩)) v (bs++[.int .u8 c]) w w':=by
 obtain ⟨i0,hi,hz0,hz1,hz2⟩:=info_parts X.infoByte
 have mixed:=L.mixed
 have t72:=L.t72;have a72:=L.a72;have z72:=L.z72;have v72:=L.v72;have u72:=run_underlying L.t72
 have t70:=L.t70;have a70:=L.a70;have z70:=L.z70;have v70:=L.v70;have u70:=run_underlying L.t70
 have t5:=L.t5;have a5:=L.a5;have z5:=L.z5;have v5:=L.v5;have u5:=run_underlying L.t5
 have t37:=L.t37;have a37:=L.a37;have z37:=L.z37;have v37:=L.v37;have u37:=run_underlying L.t37
 have t9:=L.t9;have a9:=L.a9;have z9:=L.z9;have v9:=L.v9;have u9:=run_underlying L.t9
 have t4:=L.t4;have a4:=L.a4;have z4:=L.z4;have v4:=L.v4;have u4:=run_underlying L.t4
 have t164:=L.t164;have a164:=L.a164;have z164:=L.z164;have v164:=L.v164;have u164:=run_underlying L.t164
 have e240:∀args w,(callFunc (ρ.f 240) args).run P w=.ok (.enter (ρ.f 240) args) w:=enters_of L.f240 (by kernel_rfl) rfl
 have hlt:=h.lt
 go_enter L.f167,Body.n167_ntmps ρ
 go_wp2_with (go_at_fn (ρ.f 240);refine (sb_check { L with } X.toX72 hp h.blk).mono ?_)
 rintro e w1 ⟨rfl,hbk,o1,o2,o3,o4,o5⟩
 have hown1:w1.ownsRowF 0 (ρ.t 5) 1 v bs.length bs:=by
  refine ⟨h.own.1,?_⟩
  rcases h.own.2 with q | ⟨g,cap,cur,fz,rfl,a2,a3,a4⟩
  .exact .inl q
  .exact .inr ⟨g,cap,cur,fz,rfl,a2,by rw [o5 g (fun e=>h.ne (by rw [e];rfl))];exact a3,a4⟩
 have c0:w1.cell? ⟨b,0,none⟩=some (.pointer (some ⟨b,0,none⟩)):=by rw [Lib.cell_of_heap hbk];rfl
 have c1:w1.cell? ⟨b,1,none⟩=some v:=by rw [Lib.cell_of_heap hbk];rfl
 go_wp2_with (at_builtin;refine wp_row_where rfl _ _ (ρ.t 37) rfl (ρ.t 5) i0 (.int .u8 0) L.t37 hi hz0 hz1 hz2 rfl _ _ _ rfl (hown1.alloc _) ⟨w.heap.size,0,none⟩ 1 1 [.int .u8 c] rfl rfl ?c1 ?c2 ?c3 ?c4 ?_)
 case c1 =>
  intro j u hj
  match j,hj with
  | 0,hj=>simp at hj;subst hj;rw [←o4];simp [Addr.add]
 case c2=>intro u hu;simp at hu;subst hu;rfl
 case c3=>unfold maxLen;omega
 case c4=>omega
 intro v' w2 hown' hgrow hwh
 have hb2:w2.heap[b]?=some (.cells #[.pointer (some ⟨b,0,none⟩),v] (ρ.t 72) (0,0)):=by
  rw [hgrow.block b (by simp;omega) (fun e=>h.ne e.symm),Lib.alloc_old w1 _ b (by omega)]
  exact hbk
 have d0:w2.cell? ⟨b,0,none⟩=some (.pointer (some ⟨b,0,none⟩)):=by rw [Lib.cell_of_heap hb2];rfl
 have d1:w2.cell? ⟨b,1,none⟩=some v:=by rw [Lib.cell_of_heap hb2];rfl
 have f1:w2.frozen? ⟨b,1,none⟩=false:=Lib.frozen_of_heap hb2 1
 obtain ⟨ao,n',cap,rfl⟩:∃ao n' cap,v'=.slice ao n' cap:=by
  rcases hown'.2 with ⟨hv,_⟩ | ⟨g,cap,cur,fz,hv,_⟩
  .exact ⟨_,_,_,hv⟩
  .exact ⟨_,_,_,hv⟩
 go_wp2
 go_ret
 refine ⟨rfl,Wrote.put hlt ?_ hgrow hb2 (by simpa using hown') X.neB5 (fun g hg=>(hwh g hg).imp id fun h=>?_)⟩
 .exact ⟨o1,o2,o3,Nat.le_trans (Nat.le_of_eq o4.symm) (Keeps.alloc (fun _=>False) w1 _).size,fun k hk hkb=>(Lib.alloc_old w1 _ k (by omega)).trans (o5 k hkb)⟩
 .exact Nat.le_of_succ_le h
structure ReadB (b:Nat) (v:Value) (w w':World):Prop where
 os:w'.os=w.os
 tape:w'.tape=w.tape
 output:w'.output=w.output
 size:w.heap.size≤w'.heap.size
 block:∀k,k<w.heap.size→some k≠v.ownBlock→w'.heap[k]?=w.heap[k]?
theorem World.freeze_other (w:World) (a:Addr) (n k:Nat) (h:k≠a.block):(w.freeze a n).heap[k]?=w.heap[k]?:=by
 unfold World.freeze
 split
 .rfl
 .simp only [Array.getElem?_modify]
  split
  .rename_i e
   exact absurd e.symm h
  .rfl
theorem World.freeze_rest (w:World) (a:Addr) (n:Nat):(w.freeze a n).os=w.os∧(w.freeze a n).tape=w.tape∧(w.freeze a n).output=w.output∧(w.freeze a n).heap.size=w.heap.size:=by
 unfold World.freeze
 split<;>simp
set_option maxHeartbeats 2000000 in
set_option maxRecDepth 100000 in
theorem sb_read (L:Lays.n169 P ρ) (X:Builder.Extra P ρ) {b:Nat} {p v:Value} {w:World} (l:List UInt8) (h:BA (ρ.t 72) (ρ.t 5) b p v (Lib.byteCells l) w) (h0:l≠[]) :
  Calls P (ρ.f 169) #[.pointer (some ⟨b,0,none⟩)] w fun e w'=>e=.returned (.string ⟨l.toArray⟩)∧BA (ρ.t 72) (ρ.t 5) b p v (Lib.byteCells l) w'∧ReadB b v w w':=by
 obtain ⟨hbk,hown,hne⟩:=h
 have hl0:l.length≠0:=by simpa using h0
 rw [Lib.byteCells_length] at hown
 rcases hown.2 with ⟨_,hz⟩ | ⟨g,cap,cur,fz,rfl,_,hg,hfz,hnc,hcm,hcs,htake⟩
 .exact absurd hz hl0
 have hA:Lib.BuilderAtF (ρ.t 72) (ρ.t 5) 0 b p (Lib.byteCells l) w.drew:=⟨Nat.zero_le _,_,hbk,by rw [Lib.byteCells_length];exact hown,hne⟩
 have c1:w.drew.cell? ⟨b,1,none⟩=some (.slice (some ⟨g,0,none⟩) l.length cap):=by
  have:w.drew.heap[b]?=some (.cells #[p,.slice (some ⟨g,0,none⟩) l.length cap] (ρ.t 72) (0,0)):=hbk
  rw [Lib.cell_of_heap this];rfl
 have hSD:(Builtin.unsafeSliceData_ #[(ρ.t 37)] (ρ.t 127) #[.slice (some ⟨g,0,none⟩) l.length cap]).run P w.drew=.ok (.pointer (some ⟨g,0,none⟩)) w.drew:=Lib.run_unsafeSliceData_row _ _ _ _ _ _ (by omega)
 have hUS:(Builtin.unsafeString_ #[(ρ.t 127),(ρ.t 3)] (ρ.t 9) #[.pointer (some ⟨g,0,none⟩),.int .i64 l.length]).run P w.drew=.ok (.string ⟨l.toArray⟩) (w.drew.freeze ⟨g,0,none⟩ l.length):=by
  refine Lib.run_unsafeString_row w.drew (ρ.t 127) (ρ.t 3) (ρ.t 9) (ρ.t 5) L.t127 X.cellsByte g cur.size (by have hg':w.drew.heap[g]?=some (.cells cur (ρ.t 5) fz):=hg;simp [World.shape?,hg']) l h0 (by omega) (by unfold maxLen at hcm;omega) ?_
  intro j x hx
  exact hown.cells (g:=g) rfl j (.int .u8 x.toNat) (by simp [Lib.byteCells,hx])
 have hF:=hA.froze (g:=g) (cap:=cap) (by rw [Lib.byteCells_length];exact c1)
 rw [Lib.byteCells_length] at hF
 obtain ⟨r1,r2,r3,r4⟩:=World.freeze_rest w.drew ⟨g,0,none⟩ l.length
 have hR:ReadB b (.slice (some ⟨g,0,none⟩) l.length cap) w (w.drew.freeze ⟨g,0,none⟩ l.length) :=
  ⟨r1,r2,r3,Nat.le_of_eq r4.symm,fun k _ hk=>World.freeze_other w.drew ⟨g,0,none⟩ l.length k (fun e=>hk (by rw [e];rfl))⟩
 have hbF:(w.drew.freeze ⟨g,0,none⟩ l.length).heap[b]?=some (.cells #[p,.slice (some ⟨g,0,none⟩) l.length cap] (ρ.t 72) (0,0)) :=
  (World.freeze_other w.drew ⟨g,0,none⟩ l.length b (fun e=>hne (by rw [e];rfl))).trans hbk
 obtain ⟨_,v2,k1,k2,k3⟩:=hF
 rw [hbF] at k1
 cases k1
 have hB:BA (ρ.t 72) (ρ.t 5) b p (.slice (some ⟨g,0,none⟩) l.length cap) (Lib.byteCells l) (w.drew.freeze ⟨g,0,none⟩ l.length):=⟨hbF,k2,hne⟩
 have mixed:=L.mixed
 have t72:=L.t72;have a72:=L.a72;have z72:=L.z72;have v72:=L.v72;have u72:=run_underlying L.t72
 have t70:=L.t70;have a70:=L.a70;have z70:=L.z70;have v70:=L.v70;have u70:=run_underlying L.t70
 have t37:=L.t37;have a37:=L.a37;have z37:=L.z37;have v37:=L.v37;have u37:=run_underlying L.t37
 have t127:=L.t127;have a127:=L.a127;have z127:=L.z127;have v127:=L.v127;have u127:=run_underlying L.t127
 have t3:=L.t3;have a3:=L.a3;have z3:=L.z3;have v3:=L.v3;have u3:=run_underlying L.t3
 have t9:=L.t9;have a9:=L.a9;have z9:=L.z9;have v9:=L.v9;have u9:=run_underlying L.t9
 have t5:=X.t5;have a5:=X.a5;have z5:=X.z5;have v5:=X.v5;have u5:=run_underlying X.t5
 clear hA hown
 go_enter L.f169,Body.n169_ntmps ρ
 go_wp2
 go_region_o
 all_goals (go_wp2;go_ret;exact ⟨rfl,hB,hR⟩)
theorem RelL.un {h:HP} {ρ:RO} {α:AV} {l:List AV} {vs:List Value} (r:RelL h ρ (α::l) vs):∃v vs',vs=v::vs'∧Rel h ρ α v∧RelL h ρ l vs':=by
 cases vs with
 | nil=>cases r.1
 | cons v vs=>exact ⟨v,vs,rfl,r.2 0 α v rfl rfl,Nat.succ.inj r.1,fun j β u a b=>r.2 (j+1) β u a b⟩
theorem RelL.un0 {h:HP} {ρ:RO} {vs:List Value} (r:RelL h ρ [] vs):vs=[]:=List.eq_nil_of_length_eq_zero r.1.symm
theorem sb_open {h:HP} {ρ0:RO} {hp:CH} {n:Nat} {w:World} (hs:SatH h ρ0 hp n w) {k T e g:Nat} {bs:ByteArray} (hk:gc hp k=.sb T e g bs) {v1:Value} (r:Rel h ρ0 (.bx k 0) v1) :
  ∃b c p v,v1=.pointer (some ⟨b,0,none⟩)∧ρ0 k 0=some (some b,c)∧(p=.pointer none∨p=.pointer (some ⟨b,0,none⟩))∧BA T e b p v (Lib.strCells bs) w∧(∃y,ρ0 k g=some y) ∧
   ∀b2,v.ownBlock=some b2→0<g∧∃c2,ρ0 k g=some (some b2,c2):=by
 have s:=hs.ch k
 rw [hk] at s
 obtain ⟨b,c,p,v,h1,h2,h3,h4,h5,h6,h7⟩:=s
 cases r with
 | pu _ _ q=>cases q
 | bx _ _ b' c' q =>
  rw [h1] at q
  cases q
  exact ⟨b,c,p,v,rfl,h1,h3,⟨h2,by rw [Lib.strCells_length];exact h4,h5⟩,h6,h7⟩
theorem sb_put {h:HP} {ρ0:RO} {hp:CH} {n:Nat} {w w':World} (hs:SatH h ρ0 hp n w) {k T e g:Nat} {bs bs':ByteArray} (hk:gc hp k=.sb T e g bs) {b c:Nat} {p' v:Value} (h1:ρ0 k 0=some (some b,c))
  (hy:∃y,ρ0 k g=some y) (h7:∀b2,v.ownBlock=some b2→0<g∧∃c2,ρ0 k g=some (some b2,c2)) (hp':p'=.pointer none∨p'=.pointer (some ⟨b,0,none⟩)) (W:Wrote T e b p' v (Lib.strCells bs') w w') :
  ∃ρ' g',RLe ρ0 ρ'∧SatH h ρ' ((k,.sb T e g' bs')::hp) n w'∧Keeps (live ρ0 hp) w w'∧∀x,live ρ' ((k,.sb T e g' bs')::hp) x→live ρ0 hp x∨w.heap.size≤x:=by
 obtain ⟨⟨v',B,hwh⟩,o1,o2,o3,o4,o5⟩:=W
 have lb:live ρ0 hp b:=⟨k,0,c,by rw [hk];exact .inl rfl,h1⟩
 have lv:∀b2,v.ownBlock=some b2→live ρ0 hp b2:=fun b2 e2=>let ⟨_,c2,q⟩:=h7 b2 e2;⟨k,g,c2,by rw [hk];exact .inr rfl,q⟩
 have hkeep:Keeps (live ρ0 hp) w w':=⟨o1,o2,o3,o4,fun x hx hl=>o5 x hx (fun q=>hl (q ▸ lb)) (fun q=>hl (lv x q.symm))⟩
 have hkn:k<n:=by
  rcases Nat.lt_or_ge k n with q | q
  .exact q
  .rw [hs.fr k 0 q] at h1;cases h1
 have hothers:∀x,x<w.heap.size→(h x≠none∨∃k' g c,k'≠k∧(gc hp k').own g∧ρ0 k' g=some (some x,c))→w'.heap[x]?=w.heap[x]?:=fun x hx hq=>by
  refine o5 x hx (fun q=>?_) (fun q=>?_)
  .subst q
   rcases hq with hq | ⟨k',g',c',q1,q2,q3⟩
   .exact hq (hs.hid _ lb)
   .exact q1 (hs.inj k' k g' 0 _ _ _ q2 (by rw [hk];exact .inl rfl) q3 h1)
  .obtain ⟨_,c2,r2⟩:=h7 x q.symm
   rcases hq with hq | ⟨k',g',c',q1,q2,q3⟩
   .exact hq (hs.hid _ (lv x q.symm))
   .exact q1 (hs.inj k' k g' g _ _ _ q2 (by rw [hk];exact .inr rfl) q3 r2)
 have hsz:∀x,live ρ0 hp x→x<w'.heap.size:=fun x hx=>Nat.lt_of_lt_of_le (hs.lt x hx) o4
 have hown:∀(X:Value),w'.ownsRowF 0 e 1 X (Lib.strCells bs').length (Lib.strCells bs')→w'.ownsRowF 0 e 1 X bs'.size (Lib.strCells bs'):=fun X q=>by rw [Lib.strCells_length] at q;exact q
 by_cases hnew:∃b2,v'.ownBlock=some b2∧v.ownBlock≠some b2
 .
  obtain ⟨b2,e2,ne2⟩:=hnew
  have hge:w.heap.size≤b2:=(hwh b2 e2).resolve_left ne2
  have hlt2:b2<w'.heap.size:=by
   rcases B.own.2 with ⟨q,_⟩ | ⟨g1,cap,cur,fz,q,_,q3,_⟩
   .rw [q] at e2;cases e2
   .rw [q] at e2
    cases e2
    exact (Array.getElem?_eq_some_iff.1 q3).1
  have hfree:ρ0 k (g+1)=none:=by
   cases q:ρ0 k (g+1) with
   | none=>rfl
   | some x=>have:=hs.gens k g (g+1) x (by rw [hk];rfl) q;omega
  have hle:=rset_le (some b2,0) hfree
  have h0:rset ρ0 k (g+1) (some b2,0) k 0=some (some b,c):=hle _ _ _ h1
  have hlive:∀x,live (rset ρ0 k (g+1) (some b2,0)) ((k,.sb T e (g+1) bs')::hp) x→live ρ0 hp x∨x=b2:=by
   rintro x ⟨k',g',c',q1,q2⟩
   by_cases hkk:k=k'
   .subst hkk
    rw [gc_cons_same] at q1
    rcases q1 with rfl | rfl
    .rw [h0] at q2;cases q2;exact .inl lb
    .rw [rset_same] at q2;cases q2;exact .inr rfl
   .rw [gc_cons_ne hkk] at q1
    rw [rset_ne _ _ (fun q=>hkk q.symm)] at q2
    exact .inl ⟨k',g',c',q1,q2⟩
  refine ⟨_,g+1,hle,hs.put k _ hle (fun k' g' hne=>rset_ne _ _ hne) hothers o4 ?_ ?_ ?_ ?_,hkeep,fun x hx=>(hlive x hx).imp id (fun (q:x=b2)=>by rw [q];exact hge)⟩
  .exact ⟨b,c,p',v',h0,B.blk,hp',hown _ B.own,B.ne,⟨_,rset_same _ _ _ _⟩,fun b3 e3=>by rw [e2] at e3;cases e3;exact ⟨Nat.succ_pos g,0,rset_same _ _ _ _⟩⟩
  .intro g' x c' q1 q2
   rcases q1 with rfl | rfl
   .rw [h0] at q2
    cases q2
    exact ⟨hs.hid _ lb,hsz _ lb,fun k' g2 c2 hne q3 q4=>hne (hs.inj k' k g2 0 _ _ _ q3 (by rw [hk];exact .inl rfl) q4 h1)⟩
   .rw [rset_same] at q2
    cases q2
    refine ⟨?_,hlt2,fun k' g2 c2 hne q3 q4=>?_⟩
    .cases q:h b2 with
     | none=>rfl
     | some o=>have:=(Array.getElem?_eq_some_iff.1 (hs.hh _ _ q)).1;omega
    .have:=hs.lt b2 ⟨k',g2,c2,q3,q4⟩;omega
  .intro k' g' hk'
   rw [rset_ne _ _ (by omega)]
   exact hs.fr k' g' hk'
  .intro g1 g' x q1 q2
   cases q1
   by_cases hg:g'=g+1
   .omega
   .have:rset ρ0 k (g+1) (some b2,0) k g'=ρ0 k g':=by simp [rset,hg]
    rw [this] at q2
    have:=hs.gens k g g' x (by rw [hk];rfl) q2
    omega
 .
  have hsame:∀b2,v'.ownBlock=some b2→v.ownBlock=some b2:=fun b2 e2=>Classical.byContradiction fun q=>hnew ⟨b2,e2,q⟩
  have hlive:∀x,live ρ0 ((k,.sb T e g bs')::hp) x→live ρ0 hp x:=by
   rintro x ⟨k',g',c',q1,q2⟩
   by_cases hkk:k=k'
   .subst hkk
    rw [gc_cons_same] at q1
    exact ⟨k,g',c',by rw [hk];exact q1,q2⟩
   .rw [gc_cons_ne hkk] at q1
    exact ⟨k',g',c',q1,q2⟩
  refine ⟨ρ0,g,RLe.refl _,hs.put k _ (RLe.refl _) (fun _ _ _=>rfl) hothers o4 ?_ ?_ hs.fr ?_,hkeep,fun x hx=>.inl (hlive x hx)⟩
  .exact ⟨b,c,p',v',h1,B.blk,hp',hown _ B.own,B.ne,hy,fun b2 e2=>h7 b2 (hsame b2 e2)⟩
  .intro g' x c' q1 q2
   have hl:live ρ0 hp x:=⟨k,g',c',by rw [hk];exact q1,q2⟩
   exact ⟨hs.hid _ hl,hsz _ hl,fun k' g2 c2 hne q3 q4=>hne (hs.inj k' k g2 g' _ _ _ q3 (by rw [hk];exact q1) q4 q2)⟩
  .intro g1 g' x q1 q2
   cases q1
   exact hs.gens k g g' x (by rw [hk];rfl) q2
theorem strCells_app (a b:ByteArray):Lib.strCells a++Lib.strCells b=Lib.strCells (a++b):=by
 unfold Lib.strCells
 rw [ByteArray.data_append,Array.toList_append,List.map_append]
theorem strCells_push (a:ByteArray) (c:UInt8):Lib.strCells a++[.int .u8 c.toNat]=Lib.strCells (a.push c):=by
 unfold Lib.strCells
 rw [ByteArray.data_push,Array.toList_push,List.map_append]
 rfl
variable {P:Program} {ρ:Ren}
theorem meets_sbString (L : Lays.n166 P ρ) (X : Builder.Extra P ρ) {f : FuncId} (hf : ρ.f 166 = f) (hfn : ∃ fn, P.funcs[f]? = some fn ∧ (fn.name == "runtime.NumGoroutine") = false ∧ fn.body.isNone = false) {hp : CH} {n k g : Nat} {bs s : ByteArray}
  {T e:Nat} (hT:ρ.t 72=T) (he:ρ.t 5=e) (hk:gc hp k=.sb T e g bs) (hlen:bs.size+s.size≤140737488355328) :
  Meets P f hp n [.bx k 0,.s s] fun hp' n' r=>∃g',hp'=(k,.sb T e g' (bs++s))::hp∧n'=n∧r=.tp [.i .i64 s.size,.ni]:=by
 subst hf hT he
 refine ⟨hfn,fun h ρ0 w vs hs ha=>?_⟩
 obtain ⟨v1,r1,rfl,x1,ha⟩:=ha.un
 obtain ⟨v2,r2,rfl,x2,ha⟩:=ha.un
 obtain rfl:=ha.un0
 obtain ⟨b,c,p,v,rfl,h1,h3,B,hy,h7⟩:=sb_open hs hk x1
 have e2:v2=.string s:=by
  cases x2 with
  | pu _ _ q=>cases q;rfl
 subst e2
 refine (sb_string L X h3 B s (by rw [Lib.strCells_length];exact hlen)).mono fun e w' ⟨he,W⟩=>?_
 rw [strCells_app] at W
 obtain ⟨ρ',g',q1,q2,q3,q4⟩:=sb_put hs hk h1 hy h7 (.inr rfl) W
 exact ⟨_,he,h,ρ',_,n,_,⟨g',rfl,rfl,rfl⟩,HLe.refl _,q1,q2,.pu _ _ (.tp _ _ rfl fun j α u a1 a2=>by
  match j,a1,a2 with
  | 0,a1,a2=>cases a1;cases a2;exact .i _ _
  | 1,a1,a2=>cases a1;cases a2;exact .ni),q3,q4⟩
theorem meets_sbByte (L : Lays.n167 P ρ) (X : Builder.Extra P ρ) {f : FuncId} (hf : ρ.f 167 = f) (hfn : ∃ fn, P.funcs[f]? = some fn ∧ (fn.name == "runtime.NumGoroutine") = false ∧ fn.body.isNone = false) {hp : CH} {n k g : Nat} {bs : ByteArray} {c : UInt8}
  {T e:Nat} (hT:ρ.t 72=T) (he:ρ.t 5=e) (hk:gc hp k=.sb T e g bs) (hlen:bs.size+1≤140737488355328) :
  Meets P f hp n [.bx k 0,.i .u8 c.toNat] fun hp' n' r=>∃g',hp'=(k,.sb T e g' (bs.push c))::hp∧n'=n∧r=.ni:=by
 subst hf hT he
 refine ⟨hfn,fun h ρ0 w vs hs ha=>?_⟩
 obtain ⟨v1,r1,rfl,x1,ha⟩:=ha.un
 obtain ⟨v2,r2,rfl,x2,ha⟩:=ha.un
 obtain rfl:=ha.un0
 obtain ⟨b,c0,p,v,rfl,h1,h3,B,hy,h7⟩:=sb_open hs hk x1
 have e2:v2=.int .u8 c.toNat:=by
  cases x2 with
  | pu _ _ q=>cases q;rfl
 subst e2
 refine (sb_byte L X h3 B c.toNat (by rw [Lib.strCells_length];exact hlen)).mono fun e w' ⟨he,W⟩=>?_
 rw [strCells_push] at W
 obtain ⟨ρ',g',q1,q2,q3,q4⟩:=sb_put hs hk h1 hy h7 (.inr rfl) W
 exact ⟨_,he,h,ρ',_,n,_,⟨g',rfl,rfl,rfl⟩,HLe.refl _,q1,q2,.pu _ _ .ni,q3,q4⟩
theorem meets_sbRead (L : Lays.n169 P ρ) (X : Builder.Extra P ρ) {f : FuncId} (hf : ρ.f 169 = f) (hfn : ∃ fn, P.funcs[f]? = some fn ∧ (fn.name == "runtime.NumGoroutine") = false ∧ fn.body.isNone = false) {hp : CH} {n k g : Nat} {bs : ByteArray}
  {T e:Nat} (hT:ρ.t 72=T) (he:ρ.t 5=e) (hk:gc hp k=.sb T e g bs) (h0:bs.size≠0):MeetsF P f hp n [.bx k 0] (.s bs):=by
 subst hf hT he
 refine ⟨hfn,fun h ρ0 w vs hs ha=>?_⟩
 obtain ⟨v1,r1,rfl,x1,ha⟩:=ha.un
 obtain rfl:=ha.un0
 obtain ⟨b,c0,p,v,rfl,h1,h3,B,hy,h7⟩:=sb_open hs hk x1
 have hne:bs.data.toList≠[]:=fun q=>h0 (by have:=congrArg List.length q;simpa using this)
 refine (sb_read L X bs.data.toList B hne).mono fun e w' ⟨he,B',R⟩=>?_
 have lb:live ρ0 hp b:=⟨k,0,c0,by rw [hk];exact .inl rfl,h1⟩
 have lv:∀b2,v.ownBlock=some b2→live ρ0 hp b2:=fun b2 e2=>let ⟨_,c2,q⟩:=h7 b2 e2;⟨k,g,c2,by rw [hk];exact .inr rfl,q⟩
 have m:SatH h ρ0 ((k,.sb (ρ.t 72) (ρ.t 5) g bs)::hp) n w':=by
  refine hs.put k _ (RLe.refl _) (fun _ _ _=>rfl) (fun x hx hq=>R.block x hx fun q=>?_) R.size ?_ ?_ hs.fr ?_
  .obtain ⟨_,c2,r2⟩:=h7 x q.symm
   rcases hq with hq | ⟨k',g',c',q1,q2,q3⟩
   .exact hq (hs.hid _ (lv x q.symm))
   .exact q1 (hs.inj k' k g' g _ _ _ q2 (by rw [hk];exact .inr rfl) q3 r2)
  .have q:=B'.own
   rw [show (Lib.byteCells bs.data.toList).length=bs.size by rw [Lib.byteCells_length];simp] at q
   exact ⟨b,c0,p,v,h1,B'.blk,h3,q,B'.ne,hy,h7⟩
  .intro g' x c' q1 q2
   have hl:live ρ0 hp x:=⟨k,g',c',by rw [hk];exact q1,q2⟩
   exact ⟨hs.hid _ hl,Nat.lt_of_lt_of_le (hs.lt x hl) R.size,fun k' g2 c2 hne q3 q4=>hne (hs.inj k' k g2 g' _ _ _ q3 (by rw [hk];exact q1) q4 q2)⟩
  .intro g1 g' x q1 q2
   cases q1
   exact hs.gens k g g' x (by rw [hk];rfl) q2
 refine ⟨_,he,h,HLe.refl _,m.congr fun j=>?_,.s _,⟨R.os,R.tape,R.output,R.size,fun x hx hl=>R.block x hx fun q=>hl (lv x q.symm)⟩⟩
 by_cases q:k=j
 .subst q;rw [gc_cons_same,hk]
 .rw [gc_cons_ne q]
theorem SatH.grown {h:HP} {ρ:RO} {hp:CH} {n:Nat} {w w':World} (m:SatH h ρ hp n w) (hsz:w.heap.size≤w'.heap.size) (hb:∀b,b<w.heap.size→w'.heap[b]?=w.heap[b]?):SatH h ρ hp n w' :=
 ⟨fun b o e=>by rw [hb b (Array.getElem?_eq_some_iff.1 (m.hh b o e)).1];exact m.hh b o e,fun k=>Chunk.sat_mono (HLe.refl _) (RLe.refl _) (fun g b x q1 q2=>hb b (m.lt b ⟨k,g,x,q1,q2⟩)) (m.ch k),m.inj,m.hid,fun b q=>Nat.lt_of_lt_of_le (m.lt b q) hsz,m.fr,m.gens,m.gl⟩
theorem Below.keeps {w w':World} (X:Nat→Prop) (B:Below w.heap.size w w'):Keeps X w w':=⟨B.os,B.tape,B.output,B.size,fun k hk _=>B.block k hk⟩
def joinB (xs:List ByteArray) (sep:ByteArray):ByteArray:=⟨(Lib.join (xs.map (·.data.toList)) sep.data.toList).toArray⟩
variable {P:Program} {ρ:Ren}
theorem meets_join (L : Lays.n156 P ρ) (X : Builder.Extra P ρ) {f : FuncId} (hf : ρ.f 156 = f) (hfn : ∃ fn, P.funcs[f]? = some fn ∧ (fn.name == "runtime.NumGoroutine") = false ∧ fn.body.isNone = false) {hp : CH} {n : Nat} {α : AV} {xs : List ByteArray} {sep : ByteArray}
  (hsl:sl0 hp α=some (xs.map fun x=>[AV.s x])) (hlen:(joinB xs sep).size≤140737488355328) (hN:xs.length≤140737488355328):MeetsF P f hp n [α,.s sep] (.s (joinB xs sep)):=by
 subst hf
 refine ⟨hfn,fun h ρ0 w vs hs ha=>?_⟩
 obtain ⟨v1,r1,rfl,x1,ha⟩:=ha.un
 obtain ⟨v2,r2,rfl,x2,ha⟩:=ha.un
 obtain rfl:=ha.un0
 have e2:v2=.string sep:=by
  cases x2 with
  | pu _ _ q=>cases q;rfl
 subst e2
 obtain ⟨a,cap,rfl,hc,q0,hq,hcell⟩:=sl0_read hs x1 hsl
 simp only [List.length_map] at hc ⊢
 have fin:Calls P (ρ.f 156) #[.slice a xs.length cap,.string sep] w fun e w'=>e=.returned (.string (joinB xs sep))∧Below w.heap.size w w':=by
  cases xs with
  | nil=>exact (Any.strings_Join_none L X a cap sep w).mono fun e w' ⟨he,hw⟩=>⟨he,by subst hw;exact Below.refl _ _⟩
  | cons x xs =>
   obtain ⟨b,o,rfl,hce⟩:=hcell (by simp)
   have hq0:q0=1:=(hq 0 [AV.s x] rfl).symm
   subst hq0
   have hcs:∀(j:Nat) y,(x::xs)[j]?=some y→w.cell? ⟨b,o+j,none⟩=some (.string y):=fun j y hj=>by
    obtain ⟨u,u1,u2⟩:=hce j [AV.s y] 0 (AV.s y) (by simp only [List.getElem?_map,hj];rfl) rfl
    rw [show o+1*j+0=o+j by omega] at u1
    cases u2
    exact u1
   have hbk:b<w.heap.size:=by
    have:=hcs 0 x rfl
    unfold World.cell? at this
    rcases Nat.lt_or_ge b w.heap.size with q | q
    .exact q
    .rw [Array.getElem?_eq_none q] at this;cases this
   exact Any.strings_Join L X b o cap (x::xs) sep w hcs hbk hN hc (by simpa [joinB,ByteArray.size] using hlen)
 refine fin.mono fun e w' ⟨he,B⟩=>⟨_,he,h,HLe.refl _,hs.grown B.size (fun b hb=>B.block b hb),.s _,Below.keeps _ B⟩
def itoaB (x:Int):ByteArray:=⟨(Lib.itoa x).toArray⟩
theorem meets_itoa (L : LaysM.n171 P ρ) {f : FuncId} (hf : ρ.f 171 = f) (hfn : ∃ fn, P.funcs[f]? = some fn ∧ (fn.name == "runtime.NumGoroutine") = false ∧ fn.body.isNone = false) {gb : Nat}
  (htab:∀w:World,(∃t fr,w.heap[gb]?=some (.cells (Lib.pow10Tab.map fun z=>Value.int IntKind.u64 z).toArray t fr))→∀x,-9223372036854775808≤x→x≤9223372036854775807 →
   Calls P (ρ.f 171) #[.int .i64 x] w fun e w'=>e=.returned (.string (itoaB x))∧∃k os,w'=Sort.grow (w.drewN k) os)
  (hgl:(gb,(Lib.pow10Tab.map fun z=>Value.int IntKind.u64 z).toArray)∈glTab) {hp:CH} {n:Nat} {x:Int} (h0:-9223372036854775808≤x) (h1:x≤9223372036854775807):MeetsF P f hp n [.i .i64 x] (.s (itoaB x)):=by
 subst hf
 refine ⟨hfn,fun h ρ0 w vs hs ha=>?_⟩
 obtain ⟨v1,r1,rfl,x1,ha⟩:=ha.un
 obtain rfl:=ha.un0
 have e1:v1=.int .i64 x:=by
  cases x1 with
  | pu _ _ q=>cases q;rfl
 subst e1
 obtain ⟨t,fr,q⟩:=hs.gl _ _ hgl
 refine (htab w ⟨t,fr,hs.hh _ _ q⟩ x h0 h1).mono fun e w' ⟨he,k,os,hw⟩=>?_
 have B:Below w.heap.size w w':=by
  subst hw
  exact ⟨rfl,rfl,rfl,by simp [Sort.grow],fun k hk=>by simp only [Sort.grow,World.heap_drewN];exact Array.getElem?_append_left hk⟩
 exact ⟨_,he,h,HLe.refl _,hs.grown B.size (fun b hb=>B.block b hb),.s _,Below.keeps _ B⟩
end Go.Eng
