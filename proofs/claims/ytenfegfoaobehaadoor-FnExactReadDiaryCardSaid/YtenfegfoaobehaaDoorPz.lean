/- The sizes of short literal texts, and of texts put together: plain lemmas for the walks. -/
namespace Go.Proofs.YtenfegfoaobehaaDoor.Pz
theorem sz0 : (⟨#[]⟩ : ByteArray).size = 0 := rfl
theorem sz1 (a : UInt8) : (⟨#[a]⟩ : ByteArray).size = 1 := rfl
theorem sz2 (a b : UInt8) : (⟨#[a, b]⟩ : ByteArray).size = 2 := rfl
theorem sz3 (a b c : UInt8) : (⟨#[a, b, c]⟩ : ByteArray).size = 3 := rfl
theorem sz4 (a b c d : UInt8) : (⟨#[a, b, c, d]⟩ : ByteArray).size = 4 := rfl
end Go.Proofs.YtenfegfoaobehaaDoor.Pz
