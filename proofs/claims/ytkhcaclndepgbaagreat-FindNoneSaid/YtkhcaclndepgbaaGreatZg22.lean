/- Package base: all steps are done. -/
import Derived.Test.YtkhcaclndepgbaaGreatZg21
set_option linter.unusedVariables false
set_option linter.unusedSimpArgs false
set_option maxRecDepth 100000
set_option maxHeartbeats 20000000
namespace Go.Proofs.YtkhcaclndepgbaaGreat
open Go.RowKit
def ownL (v:Value):List Nat:=match v.ownBlock with | some g=>[g] | none=>[]
theorem zml {v:Value} {g:Nat} : g∈ownL v↔v.ownBlock=some g:=by
 unfold ownL
 cases h:v.ownBlock with
 | none=>simp
 | some x=>simp [eq_comm]
def dkLs (dp bb:Nat) (wv:Value):List Nat:=dp::bb::ownL wv
theorem baPut1_at {w:World} {dp bb a b c k o cap:Nat} {x:Nat × (Nat→Nat)} {wv:Value} {D:Dk} (hd:DiskAt w dp bb wv D) (h1:w.heap[a]?=some (.cells #[.pointer (some ⟨dp,0,none⟩)] 23 (0,0)))
  (h2:w.heap[b]?=some (.cells #[.int .i64 (x.1:Int)] 3 (0,0))) (h3:w.heap[c]?=some (.cells #[.slice (some ⟨k,o,none⟩) 128 cap] 22 (0,0))) (h4:x.1<D.n) (h5:128≤cap) (h6:BytesAt w k o 128 x.2) (hN:D.waits.length≤900000) :
  Calls Tryz.prog 140 #[.pointer (some ⟨a,0,none⟩),.pointer (some ⟨b,0,none⟩),.pointer (some ⟨c,0,none⟩)] w fun e w'=>e = .returned (.int .i64 0)∧∃ wv',DiskAt w' dp bb wv' (exec1 D (some x))∧(∀ g,wv'.ownBlock=some g→wv.ownBlock=some g∨w.heap.size≤g)∧Chg (dkLs dp bb wv) w w':=by
 have cw:=dWrite_at hd h4 h6 h5 hN
 have c1:=zcb h1 0
 have c2:=zcb h2 0
 have c3:=zcb h3 0
 simp only [List.getElem?_toArray,List.getElem?_cons_zero] at c1 c2 c3
 have CW:=Lib.hid cw
 clear cw hd h1 h2 h3 h6
 go_enter Tryz.func140,Tryz.ntmps140
 go_wp2_with fail
 refine CW.out.mono ?_
 rintro e w' ⟨rfl,wv',hd',ho,hc⟩
 have HD:=Lib.hid (And.intro hd' (And.intro ho hc))
 clear hd' ho hc CW
 go_wp2_with fail
 go_ret
 exact ⟨rfl,wv',HD.out.1,HD.out.2.1,HD.out.2.2 _ (by simp [dkLs]) (fun g hg=>by simp [dkLs,zml,hg])⟩
theorem exec1_n (D:Dk) (x:Option (Nat × (Nat→Nat))):(exec1 D x).n=D.n:=by cases x <;> rfl
theorem exec_snoc (D:Dk) (l:List (Option (Nat × (Nat→Nat)))) (x:Option (Nat × (Nat→Nat))):exec D (l++[x])=exec1 (exec D l) x:=by unfold exec;rw [List.foldl_append];rfl
theorem exec_n (D:Dk):∀ l:List (Option (Nat × (Nat→Nat))),(exec D l).n=D.n
 | []=>rfl
 | x::r=>by
  show (exec (exec1 D x) r).n=D.n
  rw [exec_n (exec1 D x) r,exec1_n]
theorem exec1_waits (D:Dk) (x:Option (Nat × (Nat→Nat))):(exec1 D x).waits.length≤D.waits.length+1:=by
 cases x with
 | none=>simp [exec1]
 | some x=>simp [exec1]
theorem exec_waits:∀ (l:List (Option (Nat × (Nat→Nat)))) (D:Dk),(exec D l).waits.length≤D.waits.length+l.length
 | [],D=>by simp [exec]
 | x::r,D=>by
  show (exec (exec1 D x) r).waits.length≤_
  have:=exec_waits r (exec1 D x)
  have:=exec1_waits D x
  simp only [List.length_cons]
  omega
theorem baAll_at {w:World} {dp bb base:Nat} {wv v:Value} {D:Dk} {ops:List (Option (Nat × (Nat→Nat)))} {vs:List Value} (hd:DiskAt w dp bb wv D) (hv:w.ownsRow base 142 1 v ops.length vs)
  (hst:∀ (i:Nat) (x:Option (Nat × (Nat→Nat))),ops[i]?=some x→∃ u:Value,vs[i]?=some u∧StepIs w dp D.n u x) (hN:D.waits.length+ops.length≤800000) :
  Calls Tryz.prog 88 #[v] w fun e w'=>e = .returned (.int .i64 0)∧∃ wv',DiskAt w' dp bb wv' (exec D ops)∧(∀ g,wv'.ownBlock=some g→wv.ownBlock=some g∨w.heap.size≤g)∧Chg (dkLs dp bb wv) w w'∧(ops.getLast?=some none→wv' = .slice none 0 0):=by
 obtain ⟨va,vc,rfl,vc1,vc2⟩:=zos hv
 have H:=Lib.hid (And.intro hd (And.intro hv hst))
 obtain ⟨N,hNN⟩:∃ N,N=ops.length:=⟨_,rfl⟩
 rw [← hNN] at vc1 hN ⊢
 have HNN:=Lib.hid hNN
 clear hd hv hst hNN
 go_enter Tryz.func88,Tryz.ntmps88
 go_wp2_with fail
 go_loopg [8] N (fun gg s wr=>∃ k:Nat,gg=N - k∧k≤N∧s = .int .i64 (k:Int)∧Hid (∃ wk,DiskAt wr dp bb wk (exec D (ops.take k))∧(∀ g,wk.ownBlock=some g→wv.ownBlock=some g∨w.heap.size≤g)∧Chg (dkLs dp bb wv) w wr∧((ops.take k).getLast?=some none→wk = .slice none 0 0)))
 case atStart=>exact ⟨0,rfl,Nat.zero_le _,by go_num,Lib.hid ⟨wv,H.out.1,fun g hg => .inl hg,Chg.refl _ _,fun h=>by simp at h⟩⟩
 case round =>
  obtain ⟨k,hgg,hkN,rfl,hX⟩:=hrel
  by_cases hk:k<N
  ·obtain ⟨wk,hdk,hok,hck,-⟩:=hX.out
   obtain ⟨x,hx⟩:∃ x,ops[k]?=some x:=⟨_,List.getElem?_eq_getElem (by have:=HNN.out;omega)⟩
   obtain ⟨u,hu,hsu⟩:=H.out.2.2 k x hx
   have hrow:=H.out.2.1
   obtain ⟨g,c,eg,_,_,_,hgl,hcell⟩:=zol hrow (by have:=HNN.out;omega)
   injection eg with eg1 eg2 eg3
   clear eg2 eg3
   have hgs:g∉dkLs dp bb wv:=fun hm=>by
    obtain ⟨g',c',cur,eg',hg'⟩:∃ g' c' cur,(Value.slice va ops.length vc) = .slice (some ⟨g',0,none⟩) ops.length c'∧w.heap[g']?=some (.cells cur 142 (0,0)):=by
     rcases hrow.2 with ⟨_,h0⟩ | ⟨g',c',cur,e',_,hg',_⟩
     ·have:=HNN.out;omega
     ·exact ⟨g',c',cur,e',hg'⟩
    injection eg' with eg' _ _
    rw [eg1] at eg'
    injection eg' with eg'
    injection eg' with eg'
    subst eg'
    simp only [dkLs,List.mem_cons,zml] at hm
    rcases hm with e | e | e
    ·exact cells_ne hg' H.out.1.top (by decide) e
    ·exact cells_ne hg' H.out.1.blk (by decide) e
    ·exact row_neZ H.out.1.wts hg' (by decide) e
   have hcu:=(hck.cell (p:=⟨g,k,none⟩) hgl hgs).trans ((hcell k (by have:=HNN.out;omega)).trans hu)
   have hsk:=hsu.chg H.out.1 hck (fun q hq => .inl (by simpa [dkLs,dkL,zml] using hq))
   have eN:(exec D (ops.take k)).n=D.n:=exec_n _ _
   have eW:(exec D (ops.take k)).waits.length≤800000:=by have:=exec_waits (ops.take k) D;have:=List.length_take_le k ops;have:=HNN.out;omega
   have eT:ops.take (k+1)=ops.take k++[x]:=by rw [List.take_add_one,hx];rfl
   have i1:(k:Int)<(N:Int):=by omega
   have HE:=Lib.hid (And.intro eT (And.intro hok hck))
   clear hX hx hu hsu hrow hcell hgs hgl eT hok hck
   subst eg1
   cases x with
   | none =>
    obtain rfl:u = .func (.func 87) #[.pointer (some ⟨dp,0,none⟩)] #[]:=hsk
    have hcA:=(Chg.refl [] wr).alloc (.cells #[.func (.func 87) #[.pointer (some ⟨dp,0,none⟩)] #[]] 142)
    have hdA:=hdk.chg hcA (by simp) (by simp) (by simp)
    have cF:=dFlush_at hdA
    have hsb:=znb wr (.cells #[.func (.func 87) #[.pointer (some ⟨dp,0,none⟩)] #[]] 142)
    have hcb:=zcb hsb 0
    simp only [List.getElem?_toArray,List.getElem?_cons_zero] at hcb
    have HS:=Lib.hid (And.intro hcA cF)
    clear hdk hcA hdA cF hsb
    go_wp2_with (refine wpList_storeNew rfl 142 (.tmp 4) (.tmp 11) rfl #[.nilFunc] #[.func (.func 87) #[.pointer (some ⟨dp,0,none⟩)] #[]] wr.heap.size 1 rfl rfl rfl (by kernel_rfl) rfl rfl (by simp [Value.oneCell']) ?_)
    refine HS.out.2.mono ?_
    rintro e w3 ⟨rfl,hd3,hc3⟩
    have HE3:=Lib.hid (And.intro hd3 hc3)
    clear hd3 hc3 hcb
    go_wp2_with fail
    go_roundg (N - (k+1))
    case measure=>omega
    case rel =>
     refine ⟨k+1,rfl,by omega,by go_num,Lib.hid ⟨.slice none 0 0,?_,(fun g hg=>by cases hg),?_,fun _=>rfl⟩⟩
     ·rw [HE.out.1,exec_snoc];exact HE3.out.1
     ·exact (HE.out.2.2.trans (HS.out.1.mono (by simp))).trans (HE3.out.2.mono (by simp [dkLs]))
   | some x =>
    obtain ⟨a,b,cc,k1,o,cap,rfl,h1,h2,h3,h4,h5,h6,_⟩:=hsk
    have hcA:=(Chg.refl [] wr).alloc (.cells #[.func (.func 140) #[] #[.pointer (some ⟨a,0,none⟩),.pointer (some ⟨b,0,none⟩),.pointer (some ⟨cc,0,none⟩)]] 142)
    have hdA:=hdk.chg hcA (by simp) (by simp) (by simp)
    have cP:=baPut1_at hdA ((hcA.block a (zhl h1) (by simp)).trans h1) ((hcA.block b (zhl h2) (by simp)).trans h2) ((hcA.block cc (zhl h3) (by simp)).trans h3) (by rw [eN];exact h4) h5 (h6.chg hcA (by simp)) (by omega)
    have hsb:=znb wr (.cells #[.func (.func 140) #[] #[.pointer (some ⟨a,0,none⟩),.pointer (some ⟨b,0,none⟩),.pointer (some ⟨cc,0,none⟩)]] 142)
    have hcb:=zcb hsb 0
    simp only [List.getElem?_toArray,List.getElem?_cons_zero] at hcb
    have HS:=Lib.hid (And.intro hcA (And.intro cP hdk.wlt))
    have hdw:=hdk
    have HDK:=Lib.hid hdw
    clear hdk hcA hdA cP hsb h1 h2 h3 h4 h5 h6 hdw
    go_wp2_with (refine wpList_storeNew rfl 142 (.tmp 4) (.tmp 11) rfl #[.nilFunc] #[.func (.func 140) #[] #[.pointer (some ⟨a,0,none⟩),.pointer (some ⟨b,0,none⟩),.pointer (some ⟨cc,0,none⟩)]] wr.heap.size 1 rfl rfl rfl (by kernel_rfl) rfl rfl (by simp [Value.oneCell']) ?_)
    refine HS.out.2.1.mono ?_
    rintro e w3 ⟨rfl,wv3,hd3,ho3,hc3⟩
    have HE3:=Lib.hid (And.intro hd3 (And.intro ho3 hc3))
    clear hd3 hc3 hcb ho3
    go_wp2_with fail
    go_roundg (N - (k+1))
    case measure=>omega
    case rel =>
     have hwl:w.heap.size≤wr.heap.size:=HE.out.2.2.size
     refine ⟨k+1,rfl,by omega,by go_num,Lib.hid ⟨wv3,?_,(fun g hg=>?_),?_,fun h=>?_⟩⟩
     ·rw [HE.out.1,exec_snoc];exact HE3.out.1
     ·rcases HE3.out.2.1 g hg with h | h
      ·exact HE.out.2.1 g h
      ·exact .inr (by have:=HS.out.1.size;omega)
     ·refine (HE.out.2.2.trans (HS.out.1.mono (by simp))).then HE3.out.2.2 (fun q hq=>?_)
      simp only [dkLs,List.mem_cons,zml] at hq ⊢
      rcases hq with e | e | e
      ·exact .inl (.inl e)
      ·exact .inl (.inr (.inl e))
      ·rcases HE.out.2.1 q e with h | h
       ·exact .inl (.inr (.inr h))
       ·exact .inr h
     ·rw [HE.out.1] at h
      simp at h
  ·obtain rfl:k=N:=by omega
   obtain ⟨wk,hdk,hok,hck,hlk⟩:=hX.out
   rw [HNN.out,List.take_length] at hdk hlk
   have HZ:=Lib.hid (And.intro hdk (And.intro hok (And.intro hck hlk)))
   clear hX hdk hok hck hlk
   go_wp2_with fail
   go_ret
   exact ⟨rfl,wk,HZ.out.1,HZ.out.2.1,HZ.out.2.2.1,HZ.out.2.2.2⟩
end Go.Proofs.YtkhcaclndepgbaaGreat
