/- Proof. Conditions: none. -/
import Derived.Test.YtgfidgoefioigaaGreatDoorIi51
open Go.Proofs.Tryz
open List renaming mem_map_of_mem→zls,flatten_cons→zlt
namespace Go.Proofs.YtgfidgoefioigaaGreatDoor
open Go.Eng
set_option linter.all false
set_option maxRecDepth 20000
set_option maxHeartbeats 1000000
noncomputable def XC (doc:List Az) (k:Int) (l:List Pk):Bool :=
 if (A1 doc (FG k)).isSome=true∧((A1 doc (FG k)).getD Dv).k=1∧(A8 l:Int)≤2048 then TR doc ((A1 doc (FG k)).getD Dv).n l 1 else false
abbrev plx (k:Int) (l:List Pk):AV:=.ag [.i .i64 k,.ds (Ad Bo l)]
theorem OW (doc:List Az) (hd:DocB doc) (hk:DocOk doc) (k:Int) (l:List Pk) (hl:EQ l) (hw:A8 l≤1000000000000) (hp:CH) (m:Nat):Ah prog 24 hp m [B5 doc,plx k l] (.b (XC doc k l)):=by
 have FH:=hd.l
 have hRo:=H8 k
 have hF:=BM doc (by omega) (FG k)
 unfold DH at hF
 obtain ⟨R,hR⟩:∃R,XC doc k l=R:=⟨_,rfl⟩
 rw [hR]
 unfold XC at hR
 obtain ⟨rs,GG⟩:∃s,FG k=s:=⟨_,rfl⟩
 rw [GG] at hRo hF hR
 obtain ⟨t,ht⟩:∃t,(A1 doc rs).getD Dv=t:=⟨_,rfl⟩
 obtain ⟨tb,htb⟩:∃b,(A1 doc rs).isSome=b:=⟨_,rfl⟩
 rw [ht,htb] at hF hR
 have hC:=P7 l hw
 have hL:=RC doc hd hk l hl t.n 1
 obtain ⟨b,hb⟩:∃b,TR doc t.n l 1=b:=⟨_,rfl⟩
 rw [hb] at hL hR
 obtain ⟨c,hc⟩:∃c:Int,(A8 l:Int)=c:=⟨_,rfl⟩
 rw [hc] at hC hR
 refine Am func24 (by kernel_rfl) cc24 cr24 rfl fun hf=>?_;unfold ck24
 simp (disch:=omega) only [Aa,go_sem]
 refine A3.f (fun _ _ _=>hRo _ _) ?_
 simp (disch:=omega) only [Aa,go_sem]
 refine A3.f (fun _ _ _=>hF _ _) ?_
 simp (disch:=omega) only [Aa,go_sem]
 refine AA.f (fun _=>hC _ _) ?_
 simp (disch:=omega) only [Aa,go_sem]
 refine AA.f (fun _=>hL _ _) ?_
 simp (disch:=omega) only [Aa,go_sem]
 subst hR
 by_cases c1:tb=true∧t.k=1∧c≤2048
 .rw [if_pos c1]
  simp [c1]
 .rw [if_neg c1]
  congr 2
  rw [Bool.and_eq_false_iff]
  refine .inl ?_
  cases tb
  .rfl
  .simp at c1 ⊢
   exact c1
structure DocR (doc:List Az):Prop where
 ok:DocOk doc
 r:∀t∈doc,DfnR t
 f:∀t∈doc,t.fields.length≤1000000000000
noncomputable def drB (doc:List Az):Bool:=decide (1≤doc.length)&&(decide (doc.length≤64)&&doc.all V8)
noncomputable def Sh (doc:List Az) (k:Int) (l:List Pk) (v:Ak):Bool :=
 !N0 doc&&!Oj l 8&&decide (SG v≤400)&&drB doc&&decide (((Um doc).length:Int)=0)&&XC doc k l&&decide (v.k=6)&&(AF v sT).isSome&&decide (((AF v sT).getD AB).k=3)&&decide (((AF v sT).getD AB).s=FG k)
theorem Xz (doc:List Az) (hd:DocR doc) (k:Int) (l:List Pk) (hl:EQ l) (hw:A8 l≤1000000000000) (v:Ak) (hv:v.Fit) (hp:CH) (m:Nat):Ah prog 6 hp m [B5 doc,plx k l,vx v] (.b (Sh doc k l v)):=by
 have hG:=Iw v hv sT
 have hLg:=Pu doc hd.ok.len hd.f
 have hLp:=Zt l hw 8
 have hSz:=LK v hv
 have hDr:=Rl doc hd.ok.len hd.r
 have hSc:=fun hb:DocB doc=>Sy doc hb hd.ok
 have hRg:=fun hb:DocB doc=>OW doc hb hd.ok k l hl hw
 have hRo:=H8 k
 have hDB:drB doc=true→DocB doc:=fun h=>Wh hd.r h
 obtain ⟨R,hR⟩:∃R,Sh doc k l v=R:=⟨_,rfl⟩
 rw [hR]
 unfold Sh at hR
 have hDr:∀(hp:CH) (m:Nat),Ah prog 22 hp m [B5 doc] (.b (drB doc)):=hDr
 obtain ⟨b1,hb1⟩:∃b,N0 doc=b:=⟨_,rfl⟩
 obtain ⟨b2,Eo⟩:∃b,Oj l 8=b:=⟨_,rfl⟩
 obtain ⟨b3,hb3⟩:∃b,SG v=b:=⟨_,rfl⟩
 obtain ⟨b4,hb4⟩:∃b,drB doc=b:=⟨_,rfl⟩
 obtain ⟨S,hS⟩:∃b,Um doc=b:=⟨_,rfl⟩
 obtain ⟨b6,hb6⟩:∃b,XC doc k l=b:=⟨_,rfl⟩
 obtain ⟨g,hg⟩:∃b,AF v sT=b:=⟨_,rfl⟩
 obtain ⟨rs,GG⟩:∃b,FG k=b:=⟨_,rfl⟩
 simp only [hb1] at hLg hR
 simp only [Eo] at hLp hR
 simp only [hb3] at hSz hR
 simp only [hb4] at hDr hR hDB
 simp only [hS] at hSc hR
 simp only [hb6] at hRg hR
 simp only [hg] at hG hR
 simp only [GG] at hRo hR
 unfold Na at hG
 have hSl:(Ad AK S).length=S.length:=Ax _ _
 refine Am func6 (by kernel_rfl) cc6 cr6 rfl fun hf=>?_;unfold ck6
 simp (disch:=omega) only [Aa,go_sem]
 refine Af.f (hG _ _) ?_
 simp (disch:=omega) only [Aa,go_sem]
 refine A3.f (fun _ _ _=>hLg _ _) ?_
 simp (disch:=omega) only [Aa,go_sem]
 refine AG.f (fun _ _ _=>hLp _ _) ?_
 simp (disch:=omega) only [Aa,go_sem]
 refine AG.f (fun _ _ _=>hSz _ _) ?_
 simp (disch:=omega) only [Aa,go_sem]
 refine AG.f (fun _ _ _=>hDr _ _) ?_
 cases b4 with
 | false =>
  simp (disch:=omega) only [Aa,go_sem]
  refine AG.no ?_
  simp (disch:=omega) only [Aa,go_sem]
  refine AG.no ?_
  simp (disch:=omega) only [Aa,go_sem]
  refine AG.no ?_
  simp (disch:=omega) only [Aa,go_sem]
  rw [←hR]
  simp
 | true =>
  replace hSc:=hSc (hDB rfl)
  replace hRg:=hRg (hDB rfl)
  simp (disch:=omega) only [Aa,go_sem]
  refine AG.f (fun _ _ _=>hSc _ _) ?_
  simp (disch:=omega) only [Aa,hSl,go_sem]
  refine AG.f (fun _ _ _=>hRg _ _) ?_
  simp (disch:=omega) only [Aa,go_sem]
  refine AG.f (fun _ _ _=>hRo _ _) ?_
  simp (disch:=omega) only [Aa,go_sem]
  rw [←hR,Bool.and_true]
  try rfl
theorem Qf {p:Pk} {l:List Pk} {q:Pk} (h:Ju p (l++[q])=false):Ju p l=false∧¬(q.on=p.on∧q.key=p.key):=by
 unfold Ju at h ⊢
 rw [List.any_append] at h
 obtain ⟨h1,h2⟩:=Bool.or_eq_false_iff.1 h
 refine ⟨h1,fun e=>?_⟩
 simp [e.1,e.2] at h2
theorem PT (doc:List Az) (T:List ByteArray) (level:Int):∀(L:List (Pk × Bool)) (seen:List Pk) (last:Int),N6 doc T level L seen last=true →
  (∀x∈L,XJ doc x.1=true∧x.2=true∧Ju x.1 seen=false)∧∀(i j:Nat) p q,i<j→(L.map (·.1))[i]?=some p→(L.map (·.1))[j]?=some q→¬(p.on=q.on∧p.key=q.key)
 | [],seen,last,_=>⟨fun x hx=>absurd hx (by simp),fun i j p q _ hp=>by simp at hp⟩
 | (p,b)::r,seen,last,h=>by
  rw [N6] at h
  split at h
  .cases h
  rename_i c1
  split at h
  .cases h
  rename_i c2
  obtain ⟨h1,h2⟩:=PT doc T level r _ _ h
  refine ⟨fun x hx=>?_,?_⟩
  .rcases List.mem_cons.1 hx with rfl | hx
   .refine ⟨?_,?_,by simpa using c2⟩
    .exact eq_true_of_ne_false fun e=>c1 (.inr (.inr (.inl e)))
    .exact eq_true_of_ne_false fun e=>c1 (.inr (.inr (.inr e)))
   .obtain ⟨a1,a2,a3⟩:=h1 x hx
    exact ⟨a1,a2,(Qf a3).1⟩
  .rw [List.map_cons]
   refine Wy (fun q hq=>?_) h2
   obtain ⟨x,hx,rfl⟩:=List.mem_map.1 hq
   exact (Qf (h1 x hx).2.2).2
theorem Aa3 {doc:List Az} {p:Pk} (h:XJ doc p=true):-1≤p.initial∧p.key≠sT∧(0≤p.initial→CK p.tw=true):=by
 unfold XJ at h
 split at h
 .cases h
 rename_i c1
 split at h
 .cases h
 rename_i c2
 refine ⟨by omega,fun e=>c2 (.inr ⟨by rw [e];decide,.inl (by rw [e];decide)⟩),fun h0=>?_⟩
 exact eq_true_of_ne_false fun e=>c1 (.inr ⟨h0,e⟩)
theorem Ub (doc:List Az) (tn:ByteArray) (l:List Pk) (level:Int) (H:∀p∈l,∀lv,V9 doc p lv=true→KH p.picks) (h:TR doc tn l level=true):KH l:=by
 unfold TR at h
 rw [WG] at h
 obtain ⟨h1,h2⟩:=PT doc _ level _ _ _ h
 rw [List.map_map] at h2
 have e:List.map ((fun x=>x.1) ∘ fun p=>(p,V9 doc p level)) l=l:=List.map_id' l
 rw [e] at h2
 refine .mk l h2 (fun p hp=>Aa3 (h1 _ (zls hp)).1) fun p hp=>H p hp level (h1 _ (zls hp)).2.1
theorem W4 (doc:List Az) (p:Pk):∀lv,V9 doc p lv=true→KH p.picks :=
 Pk.ind (Q:=fun p=>∀lv,V9 doc p lv=true→KH p.picks) (fun p ih lv h=>by
  rw [Pe] at h
  exact Ub doc _ _ _ (fun q hq lv h=>ih q hq lv h) h) p
theorem YP {doc:List Az} {k:Int} {l:List Pk} (h:XC doc k l=true):KH l∧A8 l≤2048:=by
 unfold XC at h
 split at h
 .rename_i c
  exact ⟨Ub doc _ _ _ (fun p _=>W4 doc p) h,by have:=c.2.2;omega⟩
 .cases h
def Aiw (p:Ik):Prop:=p.p.length≤1000000000000∧(∀x∈p.p,x.Fit)∧p.d.Fit∧X9 p.q
def Qr (l:List Ik):Prop:=∀p∈l,Aiw p
theorem Qr.app {l m:List Ik} (h1:Qr l) (h2:Qr m):Qr (l++m):=fun p hp=>by
 rcases List.mem_append.1 hp with h | h
 .exact h1 p h
 .exact h2 p h
set_option maxHeartbeats 2000000
structure SpIn (doc:List Az) (l:List Pk) (v:Ak):Prop where
 d:DocR doc
 r:EQ l
 p:BQ l
 w:A8 l≤1000000000000
 vf:v.Fit
 vr:v.Rng
 vw:Bu v≤4000000
theorem Sk {doc:List Az} {k:Int} {l:List Pk} {v:Ak} (h:Sh doc k l v=true):XC doc k l=true∧v.k=6∧(AF v sT).isSome=true∧((AF v sT).getD AB).s=FG k:=by
 unfold Sh at h
 simp only [Bool.and_eq_true,decide_eq_true_eq] at h
 exact ⟨h.1.1.1.1.2,h.1.1.1.2,h.1.1.2,h.2⟩
theorem SpIn.sz {doc:List Az} {l:List Pk} {v:Ak} (h:SpIn doc l v) (hk:A8 l≤2048):Sz l v :=
 ⟨h.p,h.vr,by have:=h.vw;omega,by
  have h1:=h.vw
  have h2:Bu v*(1+A8 l)≤4000000*2049:=Nat.mul_le_mul h1 (by omega)
  omega⟩
theorem Z6 (x:Cd) (h:EH prog 92 (Bq x)):x.tw=Ad Dx (HJ x.tw):=by
 obtain ⟨parts,e0,hl,hp⟩:=AU underlying92 h
 obtain ⟨a,b,c,d,rfl⟩:=X8 (show parts.length=4 from hl)
 obtain ⟨a,rfl,_⟩:=AO underlying9 (hp 0 _ a rfl rfl)
 obtain ⟨l,rfl,_,hx⟩:=AH underlying88 (hp 1 _ b rfl rfl)
 obtain ⟨ts,rfl,Fm,D6⟩:=AU underlying64 (hp 2 _ c rfl rfl)
 obtain ⟨t,u,rfl⟩:=GW (show ts.length=2 from Fm)
 obtain ⟨t,rfl,_⟩:=AO underlying9 (D6 0 _ t rfl rfl)
 obtain ⟨w,rfl,_,hy⟩:=AH underlying62 (D6 1 _ u rfl rfl)
 obtain ⟨ws,rfl,_⟩:=Eq (c:=Dx) fun x h=>by
  obtain ⟨n,rfl,_⟩:=Cy underlying3 (hy x h)
  exact ⟨n,rfl⟩
 obtain ⟨l2,rfl,_,hz⟩:=AH underlying85 (hp 3 _ d rfl rfl)
 simp only [Bq,zlt,List.flatten_nil,List.cons_append,List.nil_append,List.cons.injEq,AV.ds.injEq,true_and,and_true] at e0
 obtain ⟨_,_,_,e,_⟩:=e0
 rw [e,Ys]
theorem Y9 (t:Az) (h:EH prog 90 (BB t)):∀f∈t.fields,f.tw=Ad Dx (HJ f.tw):=by
 obtain ⟨parts,e0,hl,hp⟩:=AU underlying90 h
 match parts,hl,hp,e0 with
 | [a,b,c,d,e,f,g],_,hp,e0 =>
  obtain ⟨a,rfl,_⟩:=Cy underlying3 (hp 0 _ a rfl rfl)
  obtain ⟨b,rfl,_⟩:=AO underlying9 (hp 1 _ b rfl rfl)
  obtain ⟨c,rfl,_,hc⟩:=AH underlying29 (hp 2 _ c rfl rfl)
  obtain ⟨d,rfl,_,hdd⟩:=AH underlying85 (hp 3 _ d rfl rfl)
  obtain ⟨l,rfl,_,hx⟩:=AH underlying86 (hp 4 _ e rfl rfl)
  obtain ⟨f,rfl,_,hm⟩:=AH underlying87 (hp 5 _ f rfl rfl)
  obtain ⟨g,rfl,_,hi⟩:=AH underlying88 (hp 6 _ g rfl rfl)
  simp only [BB,zlt,List.flatten_nil,List.cons_append,List.nil_append,List.cons.injEq,AV.ds.injEq,true_and,and_true] at e0
  have e1:Ad Bq t.fields=l:=e0.2.2.2.2.1
  intro x hx'
  exact Z6 x (hx _ (by rw [←e1];exact zls (f:=Bq) hx'))
theorem OS {α:AV} (h:AS prog 24 α) (hb:Ez α≤1048576):∃doc,α=B5 doc∧DocR doc:=by
 obtain ⟨L,rfl,h2⟩:=Hy underlying24 h
 obtain ⟨ts,rfl,Fm,D6⟩:=AU underlying24 h2
 match ts,Fm,D6,hb with
 | [t],_,D6,hb =>
  obtain ⟨t,rfl,_,ht⟩:=AH underlying22 (D6 0 _ t rfl rfl)
  simp only [zlt,List.flatten_nil,Cx,BG,Ez] at hb
  obtain ⟨doc,rfl,hdoc⟩:=C5 (c:=BB) (Q:=DfnQ) fun x h=>Tn (ht x h) (by have:=BZ h;omega)
  have h1:=Bk Wn doc
  refine ⟨doc,rfl,⟨⟨fun t ht=>(hdoc t ht).ok,fun t ht=>(hdoc t ht).im,fun t ht=>(hdoc t ht).me,by omega⟩,fun t h=>⟨(hdoc t h).ok,(hdoc t h).im,(hdoc t h).me,(hdoc t h).w,Y9 t (ht _ (zls (f:=BB) h))⟩,fun t h=>by have:=(hdoc t h).w.fl;omega⟩⟩
theorem TX {L:List AV} (h:EH prog 156 L) (hb:BG L≤1048576):∃x:FZ,L=BC x∧x.v.Fit∧x.v.Rng:=by
 obtain ⟨parts,rfl,hl,hp⟩:=AU underlying156 h
 obtain ⟨a,b,rfl⟩:=GW (show parts.length=2 from hl)
 obtain ⟨a,rfl,_⟩:=AO underlying9 (hp 0 _ a rfl rfl)
 simp only [zlt,List.flatten_nil,Cx,BG,Ez] at hb
 obtain ⟨v,rfl,hv⟩:=GZ (hp 1 _ b rfl rfl) (by omega)
 refine ⟨.mk a v,?_,hv.f,hv.r⟩
 rw [Bz]
 rfl
structure PkQ (p:Pk):Prop where
 i:-9223372036854775808≤p.initial∧p.initial≤9223372036854775807
 t:p.tw.length≤1000000000
 a:p.args.length≤1000000000
 r:Mz p.args
 x:EQ p.picks
 f:BQ p.picks
theorem Ud {ps:List Pk} (hl:ps.length≤1000000000) (h:∀p∈ps,PkQ p):EQ ps∧BQ ps :=
 ⟨.mk _ hl (fun p hp=>⟨(h p hp).i,(h p hp).t,(h p hp).a,(h p hp).r⟩) fun p hp=>(h p hp).x,.mk _ hl (fun p hp=>by have:=(h p hp).t;omega) fun p hp=>(h p hp).f⟩
theorem Xx {L:List AV} (h:EH prog 66 L) (hb:BG L≤1048576):∃x:Pk,L=Bo x∧PkQ x:=by
 suffices key:∀(n:Nat) (L:List AV),BG L≤n→BG L≤1048576→EH prog 66 L→∃x:Pk,L=Bo x∧PkQ x from key _ L (Nat.le_refl _) hb h
 intro n
 induction n with
 | zero =>
  intro L hn hb h
  obtain ⟨parts,rfl,hl,hp⟩:=AU underlying66 h
  match parts,hl,hp,hn with
  | a::r,_,hp,hn =>
   obtain ⟨a,rfl,_⟩:=AO underlying9 (hp 0 _ a rfl rfl)
   simp [BG,Ez] at hn
 | succ n ih =>
  intro L hn hb h
  obtain ⟨parts,rfl,hl,hp⟩:=AU underlying66 h
  match parts,hl,hp,hn,hb with
  | [a,b,c,d,e,f,g,i],_,hp,hn,hb =>
   obtain ⟨a,rfl,_⟩:=AO underlying9 (hp 0 _ a rfl rfl)
   obtain ⟨b,rfl,_⟩:=AO underlying9 (hp 1 _ b rfl rfl)
   obtain ⟨c,rfl,_⟩:=AO underlying9 (hp 2 _ c rfl rfl)
   obtain ⟨l,rfl,_,hx⟩:=AH underlying61 (hp 3 _ d rfl rfl)
   obtain ⟨ts,rfl,Fm,D6⟩:=AU underlying64 (hp 4 _ e rfl rfl)
   obtain ⟨t,u,rfl⟩:=GW (show ts.length=2 from Fm)
   obtain ⟨t,rfl,_⟩:=AO underlying9 (D6 0 _ t rfl rfl)
   obtain ⟨w,rfl,_,hy⟩:=AH underlying62 (D6 1 _ u rfl rfl)
   obtain ⟨ws,rfl,_⟩:=Eq (c:=Dx) fun x h=>by
    obtain ⟨n,rfl,_⟩:=Cy underlying3 (hy x h)
    exact ⟨n,rfl⟩
   obtain ⟨f,rfl,_⟩:=AO underlying9 (hp 5 _ f rfl rfl)
   obtain ⟨g,rfl,hg⟩:=Cy underlying3 (hp 6 _ g rfl rfl)
   obtain ⟨p,rfl,_,hz⟩:=AH underlying25 (hp 7 _ i rfl rfl)
   simp only [zlt,List.flatten_nil,Cx,BG,Ez] at hb hn
   obtain ⟨al,rfl,ha⟩:=C5 (c:=BC) (Q:=fun a=>a.v.Fit∧a.v.Rng) fun x h=>TX (hx x h) (by have:=BZ h;omega)
   obtain ⟨ps,rfl,hps⟩:=C5 (c:=Bo) (Q:=PkQ) fun x h=>ih x (by have:=BZ h;omega) (by have:=BZ h;omega) (hz x h)
   have h2:=Bk Qm ps
   have h3:=Bk Lp ws
   have h4:=Bk NC al
   obtain ⟨q1,q2⟩:=Ud (by omega) hps
   exact ⟨.mk a b c al t ws f g ps,by rw [Cg];rfl,⟨by simpa only [Pk.initial] using Ab8 hg,by simp only [Pk.tw];omega,by simp only [Pk.args];omega,ha,q1,q2⟩⟩
theorem Mn {α:AV} (h:AS prog 27 α) (hb:Ez α≤1048576):∃k l,α=plx k l∧EQ l∧BQ l∧A8 l≤1048576:=by
 obtain ⟨L,rfl,h2⟩:=Hy underlying27 h
 obtain ⟨parts,rfl,hl,hp⟩:=AU underlying27 h2
 obtain ⟨a,b,rfl⟩:=GW (show parts.length=2 from hl)
 obtain ⟨a,rfl,_⟩:=Cy underlying3 (hp 0 _ a rfl rfl)
 obtain ⟨l,rfl,_,hx⟩:=AH underlying25 (hp 1 _ b rfl rfl)
 simp only [zlt,List.flatten_nil,Cx,BG,Ez] at hb
 obtain ⟨ps,rfl,hps⟩:=C5 (c:=Bo) (Q:=PkQ) fun x h=>Xx (hx x h) (by have:=BZ h;omega)
 have h1:=Bk Qm ps
 have h3:=Aae ps
 obtain ⟨q1,q2⟩:=Ud (by omega) hps
 exact ⟨a,ps,rfl,q1,q2,by omega⟩
theorem S5 {α1 α2 α3:AV} (h1:AS prog 24 α1) (h2:AS prog 27 α2) (h3:AS prog 31 α3) (hb1:Ez α1≤1048576) (Eo:Ez α2≤1048576) (hb3:Ez α3≤1048576) :
  ∃doc k l v,α1=B5 doc∧α2=plx k l∧α3=vx v∧SpIn doc l v:=by
 obtain ⟨doc,rfl,hd⟩:=OS h1 hb1
 obtain ⟨k,l,rfl,p1,p2,p3⟩:=Mn h2 Eo
 obtain ⟨v,rfl,hv⟩:=OA h3 hb3
 exact ⟨doc,k,l,v,rfl,rfl,rfl,⟨hd,p1,p2,by omega,hv.f,hv.r,by have:=hv.w;omega⟩⟩
end Go.Proofs.YtgfidgoefioigaaGreatDoor
