/- Proof. Conditions: none. -/
import Derived.Test.YtinbodeocoeneaaGreatDoorIc15
open Nat renaming le_refl→zna
namespace Go.Eng
set_option linter.all false
def mapC {α:Type} (c:α→List AV) (l:List α):List (List AV):=l.map c
theorem mapC_nil {α:Type} (c:α→List AV):mapC c []=[]:=rfl
theorem mapC_cons {α:Type} (c:α→List AV) (x:α) (l:List α):mapC c (x::l)=c x::mapC c l:=rfl
theorem mapC_len {α:Type} (c:α→List AV) (l:List α):(mapC c l).length=l.length:=by simp [mapC]
theorem mapC_get {α:Type} (c:α→List AV) {l:List α} {j:Nat} {a:α} (h:l[j]?=some a):(mapC c l)[j]?=some (c a):=by simp [mapC,h]
theorem mapC_take {α:Type} (c:α→List AV) (l:List α) (n:Nat):(mapC c l).take n=mapC c (l.take n):=by simp [mapC]
theorem mapC_snoc {α:Type} (c:α→List AV) (l:List α) (x:α):mapC c l++[c x]=mapC c (l++[x]):=by simp [mapC]
theorem mapC_mem {α:Type} (c:α→List AV) (l:List α) {e:List AV} (h:e∈mapC c l):∃x∈l,c x=e:=by simpa [mapC] using h
def by1 (b:UInt8):List AV:=[.i .u8 b.toNat]
def st1 (s:ByteArray):List AV:=[.s s]
def in1 (n:Int):List AV:=[.i .i64 n]
abbrev stC (l:List ByteArray):List (List AV):=mapC st1 l
def bs (b:ByteArray):List UInt8:=b.data.toList
theorem byteEls_eq (b:ByteArray):byteEls b=mapC by1 (bs b):=rfl
theorem bs_len (b:ByteArray):(bs b).length=b.size:=by simp [bs]
theorem bs_mk (l:List UInt8):bs ⟨⟨l⟩⟩=l:=rfl
theorem wr64 {x:Int} (h:-9223372036854775808≤x∧x≤9223372036854775807):IntKind.i64.wrap x=x:=by
 simp [IntKind.wrap,IntKind.bits,IntKind.signed];omega
theorem wr64s (n:Nat) (h:n<9223372036854775807):IntKind.i64.wrap ((n:Int)+1)=((n+1:Nat):Int):=by rw [wr64 (by omega)];simp
def u8 (n:Int):UInt8:=UInt8.ofNat (n % 256).toNat
theorem wr8 (n:Int):IntKind.u8.wrap n=((u8 n).toNat:Int):=by
 simp [IntKind.wrap,IntKind.bits,IntKind.signed,u8];omega
attribute [grind =] bs_len bs_mk
theorem elsOk_map {α:Type} {c:α→List AV} {l:List α} {n:Nat} (h:∀x,(c x).length=n∧purs (c x)=true):elsOk n (mapC c l)=True:=eq_true fun e he=>by
 obtain ⟨x,_,rfl⟩:=mapC_mem _ _ he
 exact h x
theorem elsOk_st (l:List ByteArray):elsOk 1 (mapC st1 l)=True:=elsOk_map fun _=>⟨rfl,rfl⟩
theorem elsOk_in (l:List Int):elsOk 1 (mapC in1 l)=True:=elsOk_map fun _=>⟨rfl,rfl⟩
attribute [go_sem] elsOk_st elsOk_in by1 st1 in1 byteEls_eq bs_len bs_mk mapC_len mapC_take mapC_nil mapC_cons
/-! ### Calls with rows and boxes -/
def MeetsX (P:Program) (f:FuncId) (hp:CH) (n:Nat) (args:List AV) (hp1:CH) (n1:Nat) (r:AV):Prop:=Meets P f hp n args fun hp' n' r'=>hp'=hp1∧n'=n1∧r'=r
theorem vcCall.x {P:Program} {f:FuncId} {hp:CH} {n:Nat} {args:List AV} {K:CH→Nat→AV→Prop} {hp1:CH} {n1:Nat} {r:AV} (m:MeetsX P f hp n args hp1 n1 r) (k:K hp1 n1 r):vcCall P f hp n args K :=
 ⟨_,m,fun hp' n' r' ⟨e1,e2,e3⟩=>by subst e1;subst e2;subst e3;exact k⟩
theorem pureL_relL {h:HP} {ρ:RO} {hp:CH} {n:Nat} {w:World} (m:SatH h ρ hp n w) {l l':List AV} {vs:List Value} (r:RelL h ρ l vs) (e:pureL hp l=some l'):RelL h ρ l' vs:=by
 obtain ⟨a,b,_⟩:=pureL_rel m r e
 exact ⟨a,fun j α v h1 h2=>.pu _ _ (b j α v h1 h2)⟩
theorem MeetsF.shut {P:Program} {f:FuncId} {hp:CH} {n:Nat} {args args':List AV} {r:AV} (e:pureL (shutL hp args) args=some args') (m:MeetsF P f (shutL hp args) n args' r):MeetsX P f hp n args (shutL hp args) n r:=by
 refine ⟨m.1,fun h ρ w vs hs ha=>?_⟩
 obtain ⟨h1,a1,a2,a3⟩:=hs.shutL (h:=h) args
 have ra:=pureL_relL a2 (ha.mono a1 (RLe.refl _)) e
 refine (m.2 h1 ρ w vs a2 ra).mono fun e w' ⟨v,he,h',hh,hm,hrel,hk⟩=>?_
 exact ⟨v,he,h',ρ,_,n,r,⟨rfl,rfl,rfl⟩,a1.trans hh,RLe.refl _,hm,.pu _ _ hrel,⟨hk.os,hk.tape,hk.output,hk.size,fun b hb hX=>hk.block b hb fun hl=>hX (a3 b hl)⟩,fun b hb=>.inl (a3 b hb)⟩
theorem vcCall.p {P:Program} {f:FuncId} {hp:CH} {n:Nat} {args args':List AV} {K:CH→Nat→AV→Prop} {r:AV} (m:MeetsF P f (shutL hp args) n args' r) (e:pureL (shutL hp args) args=some args') (k:K (shutL hp args) n r):vcCall P f hp n args K :=
 vcCall.x (m.shut e) k
theorem relL_tp {h:HP} {ρ:RO} {l:List AV} {vs:List Value} (r:RelL h ρ l vs):Rel h ρ (.tp l) (.tuple vs.toArray):=.tp l vs r.1 r.2
theorem prel_tp {h:HP} {ρ:RO} {l:List AV} {vs:List Value} (r:PRel h (.tp l) (.tuple vs.toArray)):RelL h ρ l vs:=by
 generalize hv:Value.tuple vs.toArray=v at r
 cases r with
 | tp l ws e h' =>
  have:vs=ws:=by
   have:=Value.tuple.inj hv
   simpa using congrArg Array.toList this
  subst this
  exact ⟨e,fun j α v h1 h2=>.pu _ _ (h' j α v h1 h2)⟩
theorem MeetsF.shutQ {P:Program} {f:FuncId} {hp:CH} {n:Nat} {args args':List AV} {r:AV} (e:cvT (shutL hp (rcells (.tp args))) args=some args') (m:MeetsF P f (shutL hp (rcells (.tp args))) n args' r):MeetsX P f hp n args (shutL hp (rcells (.tp args))) n r:=by
 refine ⟨m.1,fun h ρ w vs hs ha=>?_⟩
 obtain ⟨h1,a1,a2,a3⟩:=hs.shutL (h:=h) (rcells (.tp args))
 have ra:RelL h1 ρ args' vs:=prel_tp (cvR_rel a2 ((relL_tp ha).mono a1 (RLe.refl _)) (show cvR _ (.tp args)=some (.tp args') by rw [cvR,e];rfl))
 refine (m.2 h1 ρ w vs a2 ra).mono fun e w' ⟨v,he,h',hh,hm,hrel,hk⟩=>?_
 exact ⟨v,he,h',ρ,_,n,r,⟨rfl,rfl,rfl⟩,a1.trans hh,RLe.refl _,hm,.pu _ _ hrel,⟨hk.os,hk.tape,hk.output,hk.size,fun b hb hX=>hk.block b hb fun hl=>hX (a3 b hl)⟩,fun b hb=>.inl (a3 b hb)⟩
theorem vcCall.q {P:Program} {f:FuncId} {hp:CH} {n:Nat} {args args':List AV} {K:CH→Nat→AV→Prop} {r:AV} (m:MeetsF P f (shutL hp (rcells (.tp args))) n args' r) (e:cvT (shutL hp (rcells (.tp args))) args=some args') (k:K (shutL hp (rcells (.tp args))) n r):vcCall P f hp n args K :=
 vcCall.x (m.shutQ e) k
theorem MeetsF.cv {P:Program} {f:FuncId} {hp:CH} {n:Nat} {args args':List AV} {r:AV} (e:cvT hp args=some args') (m:MeetsF P f hp n args' r):MeetsF P f hp n args r :=
 ⟨m.1,fun h ρ w vs hs ha=>m.2 h ρ w vs hs (prel_tp (cvR_rel hs (relL_tp ha) (show cvR _ (.tp args)=some (.tp args') by rw [cvR,e];rfl)))⟩
theorem weak_e0 {env:EN} {hp:CH} {n t m:Nat} (he:ge env t=.e0):Weak ⟨env,hp,n⟩ ⟨(t,.rw n 0 0)::env,(n,.rw 0 m [])::hp,n+1⟩:=by
 rintro C a w ⟨h,ρ,s⟩
 have hf:=s.mem.fr
 have hno:=s.mem.free
 have hρ:RLe ρ (rset ρ n 0 (none,0)):=rset_le _ (hf n 0 (zna _))
 have hgc:∀k,k≠n→gc ((n,Chunk.rw 0 m [])::hp) k=gc hp k:=fun k hk=>gc_ne _ _ (fun e=>hk e.symm)
 have hlive:∀b,live (rset ρ n 0 (none,0)) ((n,Chunk.rw 0 m [])::hp) b→live ρ hp b:=by
  rintro b ⟨k,g,c,e,r⟩
  by_cases hk:k=n
  .subst hk
   rw [gc_same] at e
   cases e
   rw [rset_same] at r
   cases r
  .rw [hgc k hk] at e
   rw [rset_ne _ _ hk] at r
   exact ⟨k,g,c,e,r⟩
 refine ⟨h,rset ρ n 0 (none,0),s.hle,s.rle.trans hρ,s.keep,fun b hb=>s.own b (hlive b hb),⟨s.mem.hh,fun k=>?_,fun k k' g g' b c c' e e' r r'=>?_,fun b hb=>s.mem.hid b (hlive b hb),fun b hb=>s.mem.lt b (hlive b hb),fun k g hk=>?_,fun k g g' x e r=>?_,s.mem.gl⟩,fun u hu=>?_,s.size,s.defers⟩
 .by_cases hk:k=n
  .subst hk
   show (gc ((k,Chunk.rw 0 m [])::hp) k).sat _ _ _ _
   rw [gc_same]
   refine ⟨none,0,rset_same _ _ _ _,by simp,by simp [maxLen],fun j e h=>by simp at h,fun _=>rfl,fun b hb=>by cases hb⟩
  .show (gc ((n,Chunk.rw 0 m [])::hp) k).sat _ _ _ _
   rw [hgc k hk]
   exact Chunk.sat_mono (HLe.refl _) hρ (fun _ _ _ _ _=>rfl) (s.mem.ch k)
 .have key:∀k g b c,(gc ((n,Chunk.rw 0 m [])::hp) k).own g→rset ρ n 0 (none,0) k g=some (some b,c)→(gc hp k).own g∧ρ k g=some (some b,c):=by
   intro k g b c e r
   by_cases hk:k=n
   .subst hk
    rw [gc_same] at e
    cases e
    rw [rset_same] at r
    cases r
   .rw [hgc k hk] at e
    rw [rset_ne _ _ hk] at r
    exact ⟨e,r⟩
  obtain ⟨a1,a2⟩:=key k g b c e r
  obtain ⟨b1,b2⟩:=key k' g' b c' e' r'
  exact s.mem.inj k k' g g' b c c' a1 b1 a2 b2
 .have hk:n+1≤k:=hk
  rw [rset_ne _ _ (by omega)]
  exact hf k g (by show n≤k;omega)
 .by_cases hk:k=n
  .subst hk
   have e:(gc ((k,Chunk.rw 0 m [])::hp) k).rgen=some g:=e
   rw [gc_same] at e
   cases e
   by_cases hg:g'=0
   .omega
   .have:rset ρ k 0 (none,0) k g'=ρ k g':=by simp [rset,hg]
    rw [this,hf k g' (zna _)] at r
    cases r
  .have e:(gc ((n,Chunk.rw 0 m [])::hp) k).rgen=some g:=e
   rw [hgc k hk] at e
   rw [rset_ne _ _ hk] at r
   exact s.mem.gens k g g' x e r
 .obtain ⟨v,h1,h2⟩:=s.env u hu
  refine ⟨v,h1,?_⟩
  show Rel h _ (ge ((t,AV.rw n 0 0)::env) u) v
  unfold ge
  by_cases ht:t=u
  .subst ht
   rw [if_pos rfl]
   have h2:Rel h ρ (ge env t) v:=h2
   rw [he] at h2
   cases h2 with
   | pu _ _ p =>
    cases p with
    | e0 a=>exact .rw n 0 0 0 a none (rset_same _ _ _ _) (zna _) (fun b hb=>by cases hb)
  .rw [if_neg ht]
   exact Rel.mono (HLe.refl _) hρ h2
theorem weak_b0 {env:EN} {hp:CH} {n c i m:Nat} {cs:List AV} (hc:gc hp c=.bx cs) (he:cs[i]?=some .e0):Weak ⟨env,hp,n⟩ ⟨env,(c,.bx (cs.set i (.rw n 0 0)))::(n,.rw 0 m [])::hp,n+1⟩:=by
 rintro C a w ⟨h,ρ,s⟩
 have hf:=s.mem.fr
 have hno:=s.mem.free
 have hcn:c≠n:=fun e=>by
  have:=hno c (by show n≤c;omega)
  rw [show gc hp c=.no from this] at hc
  cases hc
 have hρ:RLe ρ (rset ρ n 0 (none,0)):=rset_le _ (hf n 0 (zna _))
 let hp':CH:=(c,Chunk.bx (cs.set i (.rw n 0 0)))::(n,Chunk.rw 0 m [])::hp
 have gcc:gc hp' c=.bx (cs.set i (.rw n 0 0)):=gc_same _ _ _
 have gcn:gc hp' n=.rw 0 m []:=(gc_ne _ _ hcn).trans (gc_same _ _ _)
 have hgc:∀k,k≠n→k≠c→gc hp' k=gc hp k:=fun k hk hk2=>(gc_ne _ _ (fun e=>hk2 e.symm)).trans (gc_ne _ _ (fun e=>hk e.symm))
 have key:∀k g b d,(gc hp' k).own g→rset ρ n 0 (none,0) k g=some (some b,d)→(gc hp k).own g∧ρ k g=some (some b,d):=by
  intro k g b d e r
  by_cases hk:k=n
  .subst hk
   rw [gcn] at e
   cases e
   rw [rset_same] at r
   cases r
  .rw [rset_ne _ _ hk] at r
   by_cases hk2:k=c
   .subst hk2
    rw [gcc] at e
    rw [hc]
    exact ⟨e,r⟩
   .rw [hgc k hk hk2] at e
    exact ⟨e,r⟩
 have hlive:∀b,live (rset ρ n 0 (none,0)) hp' b→live ρ hp b:=by
  rintro b ⟨k,g,d,e,r⟩
  obtain ⟨e1,e2⟩:=key k g b d e r
  exact ⟨k,g,d,e1,e2⟩
 refine ⟨h,rset ρ n 0 (none,0),s.hle,s.rle.trans hρ,s.keep,fun b hb=>s.own b (hlive b hb),⟨s.mem.hh,fun k=>?_,fun k k' g g' b d d' e e' r r'=>?_,fun b hb=>s.mem.hid b (hlive b hb),fun b hb=>s.mem.lt b (hlive b hb),fun k g hk=>?_,fun k g g' x e r=>?_,s.mem.gl⟩,fun u hu=>?_,s.size,s.defers⟩
 .by_cases hk:k=n
  .subst hk
   show (gc hp' k).sat _ _ _ _
   rw [gcn]
   refine ⟨none,0,rset_same _ _ _ _,by simp,by simp [maxLen],fun j e h=>by simp at h,fun _=>rfl,fun b hb=>by cases hb⟩
  .by_cases hk2:k=c
   .subst hk2
    show (gc hp' k).sat _ _ _ _
    rw [gcc]
    have s0:=s.mem.ch k
    rw [show gc hp k=.bx cs from hc] at s0
    obtain ⟨b,d,vs,e,h1,h2,h3,h4⟩:=s0
    refine ⟨b,d,vs,e,by rw [rset_ne _ _ hk];exact h1,h2,by rw [List.length_set];exact h3,fun j α v a1 a2=>?_⟩
    rw [List.getElem?_set] at a1
    split at a1
    .rename_i hij
     subst hij
     have r:=h4 i .e0 v he a2
     split at a1
     .cases a1
      cases r with
      | pu _ _ p =>
       cases p with
       | e0 a=>exact .rw n 0 0 0 a none (rset_same _ _ _ _) (zna _) (fun b hb=>by cases hb)
     .cases a1
    .exact Rel.mono (HLe.refl _) hρ (h4 j α v a1 a2)
   .show (gc hp' k).sat _ _ _ _
    rw [hgc k hk hk2]
    exact Chunk.sat_mono (HLe.refl _) hρ (fun _ _ _ _ _=>rfl) (s.mem.ch k)
 .obtain ⟨a1,a2⟩:=key k g b d e r
  obtain ⟨b1,b2⟩:=key k' g' b d' e' r'
  exact s.mem.inj k k' g g' b d d' a1 b1 a2 b2
 .have hk:n+1≤k:=hk
  rw [rset_ne _ _ (by omega)]
  exact hf k g (by show n≤k;omega)
 .by_cases hk:k=n
  .subst hk
   have e:(gc hp' k).rgen=some g:=e
   rw [gcn] at e
   cases e
   by_cases hg:g'=0
   .omega
   .have:rset ρ k 0 (none,0) k g'=ρ k g':=by simp [rset,hg]
    rw [this,hf k g' (zna _)] at r
    cases r
  .by_cases hk2:k=c
   .subst hk2
    have e:(gc hp' k).rgen=some g:=e
    rw [gcc] at e
    cases e
   .have e:(gc hp' k).rgen=some g:=e
    rw [hgc k hk hk2] at e
    rw [rset_ne _ _ hk] at r
    exact s.mem.gens k g g' x e r
 .obtain ⟨v,h1,h2⟩:=s.env u hu
  exact ⟨v,h1,Rel.mono (HLe.refl _) hρ h2⟩
/-! ### For the automatic walk -/
theorem getK.m {α:Type} {c:α→List AV} {l:List α} {i:Nat} {K:List AV→Prop} (h:i<l.length) (k:∀x,l[i]?=some x→K (c x)):getK (mapC c l) i K :=
 ⟨c l[i],mapC_get c (by simp [h]),k _ (by simp [h])⟩
theorem mapC_all {α:Type} {c:α→List AV} {l:List α} {n:Nat} (h:∀x,(c x).length=n):∀e∈mapC c l,e.length=n:=fun e he=>by
 obtain ⟨x,_,rfl⟩:=mapC_mem _ _ he
 exact h x
theorem mapC_alln {α:Type} {c:α→List AV} {l:List α} {n:Nat} (h:∀x,(c x).length=n∧purs (c x)=true):∀e∈mapC c l,e.length=n∧purs e=true:=fun e he=>by
 obtain ⟨x,_,rfl⟩:=mapC_mem _ _ he
 exact h x
def okE (env:EN):EN→Prop
 | []=>True
 | (t,α)::r=>(ge env t=α∨α=.un)∧okE env r
theorem okE_all {env:EN}:∀{l:EN},okE env l→∀p∈l,ge env p.1=p.2∨p.2=.un
 | [],_,p,h=>by cases h
 | (t,α)::r,⟨h1,h2⟩,p,h=>by
  rcases List.mem_cons.1 h with e | e
  .subst e;exact h1
  .exact okE_all h2 p e
attribute [go_sem] okE
theorem weak_ok {env env':EN} {hp hp':CH} {n n':Nat} (he:okE env env') (hh:Sub hp hp') (hn:n≤n'):Weak ⟨env,hp,n⟩ ⟨env',hp',n'⟩:=weak_of (okE_all he) hh hn
def okG (n:Nat) (env:EN):EN→Prop
 | []=>True
 | (t,α)::r=>((ge env t=α∧α.und n)∨α=.un)∧okG n env r
theorem okG_all {n:Nat} {env:EN}:∀{l:EN},okG n env l→∀p∈l,(ge env p.1=p.2∧p.2.und n)∨p.2=.un
 | [],_,p,h=>by cases h
 | (t,α)::r,⟨h1,h2⟩,p,h=>by
  rcases List.mem_cons.1 h with e | e
  .subst e;exact h1
  .exact okG_all h2 p e
theorem weakG_ok {env0 env env':EN} {hp0 hp hp':CH} {n0 n:Nat} (he:okG n0 env env') (hh:SubG n0 hp0 hp hp'):WeakG ⟨env0,hp0,n0⟩ ⟨env,hp,n⟩ ⟨env',hp',n0⟩:=weakG_of (okG_all he) hh
theorem lt_off (n i j:Nat):(n+i<n+j)=(i<j):=propext (by omega)
theorem lt_off0 (n j:Nat):(n<n+j)=(0<j):=propext (by omega)
theorem bel_bx (n k o:Nat):(AV.bx k o).und n=(k<n):=rfl
theorem bel_rw (n k g l:Nat):(AV.rw k g l).und n=(k<n):=rfl
theorem bel_mp (n k:Nat):(AV.mp k).und n=(k<n):=rfl
theorem bel_ep (n m i o:Nat) (α:AV):(AV.ep α m i o).und n=α.und n:=rfl
theorem bel_ag (n:Nat) (l:List AV):(AV.ag l).und n=AV.und.undL n l:=rfl
theorem bel_tp (n:Nat) (l:List AV):(AV.tp l).und n=AV.und.undL n l:=rfl
theorem bel_fn (n f:Nat) (l:List AV):(AV.fn f l).und n=AV.und.undL n l:=rfl
theorem bel_fc (n t:Nat) (α:AV):(AV.fc t α).und n=α.und n:=rfl
theorem bel_gd (n:Nat) (c:Bool) (α:AV):(AV.gd c α).und n=α.und n:=rfl
theorem bel_un (n:Nat):AV.un.und n=True:=rfl
theorem bel_b (n:Nat) (x:Bool):(AV.b x).und n=True:=rfl
theorem bel_i (n:Nat) (k:IntKind) (x:Int):(AV.i k x).und n=True:=rfl
theorem bel_s (n:Nat) (x:ByteArray):(AV.s x).und n=True:=rfl
theorem bel_ds (n:Nat) (l:List (List AV)):(AV.ds l).und n=True:=rfl
theorem bel_e0 (n:Nat):AV.e0.und n=True:=rfl
theorem bel_np (n:Nat):AV.np.und n=True:=rfl
theorem bel_mn (n:Nat):AV.mn.und n=True:=rfl
theorem bel_nf (n:Nat):AV.nf.und n=True:=rfl
theorem bel_ni (n:Nat):AV.ni.und n=True:=rfl
theorem belL_nil (n:Nat):AV.und.undL n []=True:=rfl
theorem belL_cons (n:Nat) (α:AV) (r:List AV):AV.und.undL n (α::r)=(α.und n∧AV.und.undL n r):=rfl
theorem belC_bx (n:Nat) (l:List AV):(Chunk.bx l).und n=AV.und.undL n l:=rfl
theorem belC_rw (n g k:Nat) (l:List (List AV)):(Chunk.rw g k l).und n=True:=rfl
theorem belC_sh (n g k:Nat) (l:List (List AV)):(Chunk.sh g k l).und n=True:=rfl
theorem belC_rn (n g k:Nat) (l:List (List AV)):(Chunk.rn g k l).und n=(∀x∈l,AV.und.undL n x):=rfl
attribute [go_sem] belC_rn
theorem belC_mp (n:Nat) (l:List (ByteArray × AV)):(Chunk.mp l).und n=True:=rfl
theorem belC_ro (n:Nat) (l:List AV):(Chunk.ro l).und n=True:=rfl
attribute [go_sem] okG lt_off lt_off0 bel_bx bel_rw bel_mp bel_ep bel_ag bel_tp bel_fn bel_fc bel_gd bel_un bel_b bel_i bel_s bel_ds bel_e0 bel_np bel_mn bel_nf bel_ni belL_nil belL_cons belC_bx belC_rw belC_sh belC_mp belC_ro
theorem bs_def (b:ByteArray):b.data.toList=bs b:=rfl
attribute [go_sem] bs_def
attribute [grind =] mapC_len mapC_nil mapC_cons by1 st1 in1
attribute [simp] mapC_len bs_len
attribute [grind =] Int.ofNat_eq_natCast
/-! ### What is lent to a callee: rows and variables of the caller that it reads alone -/
def AV.fl1:AV→Bool
 | .b _ | .i _ _ | .s _=>true
 | _=>false
def AV.flat:AV→Bool
 | .tp l=>l.all AV.fl1
 | .ag l=>l.all AV.fl1
 | α=>α.fl1
theorem fl1_rel {h h':HP} {α:AV} {v:Value} (o:α.fl1=true) (r:PRel h' α v):PRel h α v:=by
 cases α<;>first
  | (simp [AV.fl1] at o;done)
  | (cases r;constructor)
theorem flat_rel {h h':HP} {α:AV} {v:Value} (o:α.flat=true) (r:PRel h' α v):PRel h α v:=by
 cases α with
 | tp l=>cases r with | tp _ vs e hx=>exact .tp _ _ e fun j β u a b=>fl1_rel (List.all_eq_true.1 o β (List.mem_of_getElem? a)) (hx j β u a b)
 | ag l=>cases r with | ag _ vs e hx=>exact .ag _ _ e fun j β u a b=>fl1_rel (List.all_eq_true.1 o β (List.mem_of_getElem? a)) (hx j β u a b)
 | _=>exact fl1_rel o r
def rowLent (hp:CH):CH→Prop
 | []=>True
 | (k,.sh g m l)::r=>(gc hp k=.rw g m l∨gc hp k=.sh g m l)∧rowLent hp r
 | _=>False
def boxLent (hp R:CH):CH→Prop
 | []=>True
 | (k,.ro cs)::r=>((∃xs,gc hp k=.bx xs∧pureL R xs=some cs)∨gc hp k=.ro cs)∧boxLent hp R r
 | _=>False
def satL (h:HP) (ρ:RO) (w:World):CH→Prop
 | []=>True
 | (k,c)::r=>c.sat h ρ w k∧c.gen=none∧satL h ρ w r
theorem satL_mono {h h':HP} {ρ:RO} {w:World} (hh:HLe h h'):∀{R:CH},satL h ρ w R→satL h' ρ w R
 | [],_=>trivial
 | (k,c)::r,s=>⟨Chunk.sat_mono hh (RLe.refl _) (fun g b x e=>(Chunk.own_none s.2.1 e).elim) s.1,s.2.1,satL_mono hh s.2.2⟩
theorem satL_get {h:HP} {ρ:RO} {w:World}:∀{R:CH},satL h ρ w R→∀k,(gc R k).sat h ρ w k∧(gc R k).gen=none
 | [],_,k=>⟨trivial,rfl⟩
 | (k',c)::r,s,k=>by
  by_cases e:k'=k
  .subst e;rw [gc_cons_same];exact ⟨s.1,s.2.1⟩
  .rw [gc_cons_ne e];exact satL_get s.2.2 k
theorem satL_app {h:HP} {ρ:RO} {w:World}:∀{A B:CH},satL h ρ w A→satL h ρ w B→satL h ρ w (A++B)
 | [],B,_,b=>b
 | (k,c)::r,B,a,b=>⟨a.1,a.2.1,satL_app a.2.2 b⟩
theorem satL_H {h0 h:HP} {ρ:RO} {hp:CH} {n:Nat} {w:World} (hs:SatH h0 ρ hp n w) (hl:HLe h0 h) (hh:∀b o,h b=some o→w.heap[b]?=some o) {R:CH} (s:satL h ρ w R):SatH h ρ R n w:=by
 have no:∀b,¬live ρ R b:=fun b ⟨k,g,c,e,_⟩=>Chunk.own_none (satL_get s k).2 e
 refine ⟨hh,fun k=>(satL_get s k).1,fun k k' g g' b c c' e _ _ _=>?_,fun b hb=>absurd hb (no b),fun b hb=>absurd hb (no b),hs.fr,fun k g g' x e _=>?_,hs.glm hl⟩
 .exact (Chunk.own_none (satL_get s k).2 e).elim
 .have e:=Chunk.rgen_gen e
  rw [(satL_get s k).2] at e
  cases e
theorem hold {h:HP} {w:World} (hh:∀b o,h b=some o→w.heap[b]?=some o) {b:Nat} {o:Obj} (hb:w.heap[b]?=some o):∃h',HLe h h'∧(∀b o,h' b=some o→w.heap[b]?=some o)∧h' b=some o:=by
 refine ⟨fun x=>if x=b then some o else h x,fun x p e=>?_,fun x p e=>?_,if_pos rfl⟩
 .by_cases hx:x=b
  .subst hx
   have:=hh _ _ e
   rw [hb] at this
   cases this
   exact if_pos rfl
  .exact (if_neg hx).trans e
 .by_cases hx:x=b
  .subst hx
   have e2:(some o:Option Obj)=some p:=(if_pos rfl).symm.trans e
   cases e2
   exact hb
  .have e2:h x=some p:=(if_neg hx).symm.trans e
   exact hh _ _ e2
theorem lendRows {h:HP} {ρ:RO} {hp:CH} {n:Nat} {w:World} (hs:SatH h ρ hp n w):∀{R:CH},rowLent hp R→∃h',HLe h h'∧(∀b o,h' b=some o→w.heap[b]?=some o)∧satL h' ρ w R
 | [],_=>⟨h,HLe.refl _,hs.hh,trivial⟩
 | (k,.sh g m l)::r,hr=>by
  obtain ⟨h1,a1,a2,a3⟩:=lendRows hs hr.2
  rcases hr.1 with e | e
  .have hk:=hs.ch k
   rw [e] at hk
   obtain ⟨ob,cap,g1,g2,g3,g4,g5,g6⟩:=hk
   cases ob with
   | none=>exact ⟨h1,a1,a2,⟨none,cap,g1,g2,g3,g4,g5,fun b hb=>by cases hb⟩,rfl,a3⟩
   | some b =>
    obtain ⟨vs,ty,q1,q2,q3⟩:=g6 b rfl
    obtain ⟨h2,b1,b2,b3⟩:=hold a2 q1
    refine ⟨h2,a1.trans b1,b2,⟨some b,cap,g1,g2,g3,g4,g5,fun b' hb=>?_⟩,rfl,satL_mono b1 a3⟩
    cases hb
    exact ⟨vs,ty,_,b3,fun j x q α y1 y2=>let ⟨u,z1,z2⟩:=q3 j x q α y1 y2;⟨u,z1,z2.mono (a1.trans b1)⟩⟩
  .have hk:=hs.ch k
   rw [e] at hk
   exact ⟨h1,a1,a2,Chunk.sat_mono (c:=.sh g m l) a1 (RLe.refl _) (fun _ _ _ e=>by cases e) hk,rfl,a3⟩
theorem lendBoxes {h h1:HP} {ρ:RO} {hp R:CH} {n:Nat} {w:World} (hs:SatH h ρ hp n w) (a1:HLe h h1) (hR:SatH h1 ρ R n w):∀{B:CH},boxLent hp R B→∃h',HLe h1 h'∧(∀b o,h' b=some o→w.heap[b]?=some o)∧satL h' ρ w B
 | [],_=>⟨h1,HLe.refl _,hR.hh,trivial⟩
 | (k,.ro cs)::r,hr=>by
  obtain ⟨h2,c1,c2,c3⟩:=lendBoxes hs a1 hR hr.2
  rcases hr.1 with ⟨xs,e,hp'⟩ | e
  .have hk:=hs.ch k
   rw [e] at hk
   obtain ⟨b,c,vs,ty,g1,g2,g3,g4⟩:=hk
   obtain ⟨h3,b1,b2,b3⟩:=hold c2 g2
   have rl:RelL h1 ρ xs vs.toList:=⟨by simpa using g3.symm,fun j α v x y=>(g4 j α v x (by simpa using y)).mono a1 (RLe.refl _)⟩
   obtain ⟨p1,p2,_⟩:=pureL_rel hR rl hp'
   refine ⟨h3,c1.trans b1,b2,⟨b,c,vs,ty,_,g1,b3,by simpa using p1.symm,fun j α v x y=>(p2 j α v x (by simpa using y)).mono (c1.trans b1)⟩,rfl,satL_mono b1 c3⟩
  .have hk:=hs.ch k
   rw [e] at hk
   exact ⟨h2,c1,c2,Chunk.sat_mono (c:=.ro cs) (a1.trans c1) (RLe.refl _) (fun _ _ _ e=>by cases e) hk,rfl,c3⟩
def cvX (hp:CH) (α:AV):AV:=(cvA hp α).getD α
theorem cvX_relL {h:HP} {ρ:RO} {hp:CH} {n:Nat} {w:World} (m:SatH h ρ hp n w) {l:List AV} {vs:List Value} (r:RelL h ρ l vs):RelL h ρ (l.map (cvX hp)) vs:=by
 refine ⟨by simpa using r.1,fun j α v h1 h2=>?_⟩
 rw [List.getElem?_map] at h1
 cases hl:l[j]? with
 | none=>rw [hl] at h1;cases h1
 | some β =>
  rw [hl] at h1
  cases h1
  have q:=r.2 j β v hl h2
  unfold cvX
  cases hc:cvA hp β with
  | none=>exact q
  | some γ=>exact .pu _ _ (cvA_rel m q hc)
theorem MeetsF.lend {P:Program} {f:FuncId} {hp R B:CH} {n:Nat} {args args':List AV} {r:AV} (hR:rowLent hp R) (hB:boxLent hp R B) (e:args.map (cvX (B++R))=args') (hr:r.flat=true) (m:MeetsF P f (B++R) n args' r):MeetsF P f hp n args r:=by
 refine ⟨m.1,fun h ρ w vs hs ha=>?_⟩
 obtain ⟨h1,a1,a2,a3⟩:=lendRows hs hR
 have sR:=satL_H hs a1 a2 a3
 obtain ⟨h2,b1,b2,b3⟩:=lendBoxes hs a1 sR hB
 have sA:=satL_app b3 (satL_mono b1 a3)
 have s2:=satL_H hs (a1.trans b1) b2 sA
 have ra:RelL h2 ρ args' vs:=by
  rw [←e]
  exact cvX_relL s2 (ha.mono (a1.trans b1) (RLe.refl _))
 refine (m.2 h2 ρ w vs s2 ra).mono fun e w' ⟨v,he,h',hh,hm,hrel,hk⟩=>?_
 have old:∀b,b<w.heap.size→w'.heap[b]?=w.heap[b]?:=fun b hb=>hk.block b hb fun ⟨k,g,c,q,_⟩=>Chunk.own_none (satL_get sA k).2 q
 refine ⟨v,he,h,HLe.refl _,⟨fun b o x=>?_,fun k=>Chunk.sat_mono (HLe.refl _) (RLe.refl _) (fun g b x q1 q2=>old b (hs.lt b ⟨k,g,x,q1,q2⟩)) (hs.ch k),hs.inj,hs.hid,fun b hb=>Nat.lt_of_lt_of_le (hs.lt b hb) hk.size,hs.fr,hs.gens,hs.gl⟩,flat_rel hr hrel,
  ⟨hk.os,hk.tape,hk.output,hk.size,fun b hb _=>old b hb⟩⟩
 have:=hs.hh b o x
 rw [old b (Array.getElem?_eq_some_iff.1 this).1]
 exact this
attribute [go_sem] rowLent boxLent AV.fl1 AV.flat cvX
end Go.Eng
